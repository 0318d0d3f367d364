/- The disk: Read, put together. -/
import Derived.Test.YtlmdghafiadgjaaDkN
namespace Go.Proofs.Ytlmdghafiadgjaa
open Go.RowKit Go.Proofs.YtlmdghafiadgjaaW.PrintWords

def readR (D : DS) (i : Int) : List Int := if hasV D.size i = 0 then readV D i else []
theorem readR_bytes (D : DS) (h : D.Ok) (i : Int) : Bytes (readR D i) ∧ (readR D i).length ≤ 256 := by
  unfold readR
  split
  · have := nowP_blk h.pend i (D.sure i) (h.sure i)
    exact ⟨this.2, by have := this.1; unfold readV; omega⟩
  · exact ⟨fun x hx => (List.not_mem_nil hx).elim, by simp⟩
theorem read_any (b : Nat) (D : DS) (fs : Nat → Prop) (i : Int) (w : World) (h : DiskAt w b D fs) :
    Calls Try.prog 55 #[.pointer (some ⟨b, 0, none⟩), .int .i64 i] w (ReadPost w (readR D i) (hasV D.size i)) := by
  unfold readR
  by_cases hv : hasV D.size i = 0
  · rw [if_pos hv, hv]
    exact read_ok b D fs i w h hv
  · rw [if_neg hv]
    refine (read_bad b D fs i w h hv).mono ?_
    rintro e w1 ⟨rfl, rfl⟩
    exact ⟨_, rfl, ORow.nil _ _ _ _, Below.refl _ _⟩
set_option maxRecDepth 100000 in
set_option maxHeartbeats 400000 in
theorem read_no (p : Value) (i : Int) (w : World) (h : NoDisk w p) : Calls Try.prog 55 #[p, .int .i64 i] w fun e w' => e = .returned (.tuple #[.slice none 0 0, .int .i64 6]) ∧ w = w' := by
  have HM := Lib.hid (has_no p i w h)
  clear h
  go_enter Try.func55, Try.ntmps55
  go_wp2_with (first | (go_at_call 61; ((with_reducible refine HM.out.mono ?_); rintro e w1 ⟨rfl, rfl⟩)))
  go_ret2
  exact ⟨rfl, rfl⟩
end Go.Proofs.Ytlmdghafiadgjaa
