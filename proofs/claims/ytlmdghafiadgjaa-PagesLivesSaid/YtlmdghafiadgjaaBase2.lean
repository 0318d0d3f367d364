/- More words of this session's own: cuts of a row of one's own; steps of a world. -/
import Derived.Test.YtlmdghafiadgjaaBase
namespace Go.Proofs.Ytlmdghafiadgjaa
open Go.RowKit Go.Proofs.YtlmdghafiadgjaaW.PrintWords

theorem ORow.take {k : IntKind} {e : TypeId} {w : World} {base n m c : Nat} {A : Option Addr} {xs : List Int} (h : ORow k e w base (.slice A n c) xs) (hn : n = xs.length) (hm : m ≤ n) : ORow k e w base (.slice A (xs.take m).length c) (xs.take m) := by
  subst hn
  have h2 := own_take h hm
  rw [Nat.mul_one] at h2
  have hl : (xs.take m).length = m := by rw [List.length_take]; omega
  have hnum : nums k (xs.take m) = (nums k xs).take m := by simp [nums, List.map_take]
  unfold ORow
  rw [hl, hnum]
  exact h2
theorem rd_drop (l : List Int) (m i : Nat) : rd (l.drop m) (i : Int) = rd l ((m + i : Nat) : Int) := by
  simp only [rd, List.getD_eq_getElem?_getD, List.getElem?_drop, Int.toNat_natCast]
theorem rd_zero_drop (l : List Int) (m : Nat) : rd (l.drop m) 0 = rd l (m : Int) := by
  have := rd_drop l m 0
  simpa using this
end Go.Proofs.Ytlmdghafiadgjaa
