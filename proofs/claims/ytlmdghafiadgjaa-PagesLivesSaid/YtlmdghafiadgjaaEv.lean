/- Functions over fuel: what they come to from some fuel on. -/
import Derived.Test.YtlmdghafiadgjaaBase2
namespace Go.Proofs.Ytlmdghafiadgjaa
open Go.RowKit Go.Proofs.YtlmdghafiadgjaaW.PrintWords

/-- From some fuel on it is r. -/
def Ev {α : Type} (g : Nat → Option α) (r : α) : Prop := ∃ k0, ∀ k, k0 ≤ k → g k = some r
section
variable {α β : Type} {g h : Nat → Option α} {r : α}
theorem Ev.step (hd : ∀ k, g (k + 1) = h k) (he : Ev h r) : Ev g r := by
  obtain ⟨k0, h0⟩ := he
  refine ⟨k0 + 1, fun k hk => ?_⟩
  obtain ⟨j, rfl⟩ : ∃ j, k = j + 1 := ⟨k - 1, by omega⟩
  rw [hd]; exact h0 j (by omega)
theorem Ev.done (r : α) : Ev (fun _ => some r) r := ⟨0, fun _ _ => rfl⟩
theorem Ev.bind {p : Nat → Option β} {q : Nat → β → Option α} {x : β} (hp : Ev p x) (hq : Ev (fun k => q k x) r) : Ev (fun k => (p k).bind (q k)) r := by
  obtain ⟨k0, h0⟩ := hp
  obtain ⟨k1, h1⟩ := hq
  refine ⟨k0 + k1, fun k hk => ?_⟩
  show (p k).bind (q k) = some r
  rw [h0 k (by omega)]; exact h1 k (by omega)
theorem Ev.pos {c : Prop} [Decidable c] {a b : Nat → Option α} (hc : c) (h : Ev a r) : Ev (fun k => if c then a k else b k) r := by
  simp only [if_pos hc]; exact h
theorem Ev.neg {c : Prop} [Decidable c] {a b : Nat → Option α} (hc : ¬ c) (h : Ev b r) : Ev (fun k => if c then a k else b k) r := by
  simp only [if_neg hc]; exact h
theorem Ev.get (he : Ev g r) : ∃ k, g k = some r := by
  obtain ⟨k0, h0⟩ := he
  exact ⟨k0, h0 k0 (Nat.le_refl _)⟩
theorem Ev.mono (hm : ∀ k, LeO (g k) (g (k + 1))) (k0 : Nat) (he : g k0 = some r) : Ev g r := by
  refine ⟨k0, fun k hk => ?_⟩
  obtain ⟨d, rfl⟩ : ∃ d, k = k0 + d := ⟨k - k0, by omega⟩
  clear hk
  induction d with
  | zero => exact he
  | succ d ih => exact hm _ _ ih
theorem Ev.of (he : g = h) (hh : Ev h r) : Ev g r := he ▸ hh
end
theorem wrap64_id (x : Int) (h0 : -9223372036854775808 ≤ x) (h1 : x < 9223372036854775808) : wrap64 x = x := by
  unfold wrap64
  omega
theorem tmod_pos (a b : Int) (h : 0 ≤ a) : Int.tmod a b = a % b := Int.tmod_eq_emod_of_nonneg h
theorem tdiv_pos (a b : Int) (h : 0 ≤ a) : Int.tdiv a b = a / b := Int.tdiv_eq_ediv_of_nonneg h
end Go.Proofs.Ytlmdghafiadgjaa
