/- The disk: same, alive. -/
import Derived.Test.YtfjeincceglfoaaDk11
namespace Go.Proofs.Ytfjeincceglfoaa
open Go.RowKit Go.Proofs.YtfjeincceglfoaaW.PrintWords

def readR (D : DS) (i : Int) : List Int := if hasV D.size i = 0 then readV D i else []
theorem readR_bytes (D : DS) (h : D.Ok) (i : Int) : Bytes (readR D i) ∧ (readR D i).length ≤ 256 := by
  unfold readR
  split
  · have := nowP_blk h.pend i (D.sure i) (h.sure i)
    exact ⟨this.2, by have := this.1; unfold readV; omega⟩
  · exact ⟨fun x hx => (List.not_mem_nil hx).elim, by simp⟩
theorem read_any (b : Nat) (D : DS) (fs : Nat → Prop) (i : Int) (w : World) (h : DiskAt w b D fs) :
    Calls Try.prog 14 #[.pointer (some ⟨b, 0, none⟩), .int .i64 i] w (ReadPost w (readR D i) (hasV D.size i)) := by
  unfold readR
  by_cases hv : hasV D.size i = 0
  · rw [if_pos hv, hv]
    exact read_ok b D fs i w h hv
  · rw [if_neg hv]
    refine (read_bad b D fs i w h hv).mono ?_
    rintro e w1 ⟨rfl, rfl⟩
    exact ⟨_, rfl, ORow.nil _ _ _ _, Below.refl _ _⟩
set_option maxRecDepth 100000 in
set_option maxHeartbeats 400000 in
theorem read_no (p : Value) (i : Int) (w : World) (h : NoDisk w p) : Calls Try.prog 14 #[p, .int .i64 i] w fun e w' => e = .returned (.tuple #[.slice none 0 0, .int .i64 6]) ∧ w = w' := by
  have HM := Lib.hid (has_no p i w h)
  clear h
  go_enter Try.func14, Try.ntmps14
  go_wp2_with (first | (go_at_call 28; ((with_reducible refine HM.out.mono ?_); rintro e w1 ⟨rfl, rfl⟩)))
  go_ret2
  exact ⟨rfl, rfl⟩
/-- Two disks read alike. -/
def Alike (A B : DS) : Prop := ∀ i : Int, readR A i = readR B i ∧ hasV A.size i = hasV B.size i
set_option maxRecDepth 100000 in
set_option maxHeartbeats 2000000 in
theorem same_yes (a b : Nat) (A B : DS) (fa fb : Nat → Prop) (w : World) (ha : DiskAt w a A fa) (hb : DiskAt w b B fb) (hAB : Alike A B) :
    Calls Try.prog 12 #[.pointer (some ⟨a, 0, none⟩), .pointer (some ⟨b, 0, none⟩)] w fun e w' => e = .returned (.bool true) ∧ Below w.heap.size w w' := by
  have HA := Lib.hid ha
  have HB := Lib.hid hb
  have HAB := Lib.hid hAB
  clear ha hb hAB
  go_enter Try.func12, Try.ntmps12
  go_wp2
  go_loopw [5] (fun s5 wr => ∃ j : Nat, j ≤ 8 ∧ s5 = .int .i64 j ∧ Hid (Below w.heap.size w wr)) (fun s5 _ => 8 - (intOf s5).toNat)
  case atStart => exact ⟨0, Nat.zero_le _, rfl, Lib.hid (Below.refl _ _)⟩
  case round =>
    obtain ⟨j, hj, rfl, HW⟩ := hrel
    by_cases hlt : j < 8
    · have HRA := Lib.hid (read_any a A fa (j : Int) wr (HA.out.below HW.out))
      have HRB := Lib.hid (fun w2 (h : Below wr.heap.size wr w2) => read_any b B fb (j : Int) w2 ((HB.out.below HW.out).below h))
      have hab := HAB.out (j : Int)
      rw [← hab.1, ← hab.2] at HRB
      generalize readR A (j : Int) = xs at *
      generalize hasV A.size (j : Int) = q at *
      clear hab
      have hj1 : (j : Int) < 8 := by omega
      go_wp2_with (first
        | (go_at_call 14; ((with_reducible refine HRA.out.mono ?_); rintro e1 w1 ⟨v1, rfl, hO1, hB1⟩; obtain ⟨A1, c1, rfl, hc1, hr1⟩ := hO1.reads; have HB1 := Lib.hid hB1; have HR1 := Lib.hid hr1; have HRB1 := Lib.hid (HRB.out w1 hB1); clear hO1 hB1 hr1 hc1))
        | (go_at_call 14; ((with_reducible refine HRB1.out.mono ?_); rintro e2 w2 ⟨v2, rfl, hO2, hB2⟩; obtain ⟨A2, c2, rfl, hc2, hr2⟩ := hO2.reads; have HB2 := Lib.hid (below_then HW.out HW.out.size (below_then HB1.out HB1.out.size hB2)); have cv1 := string_of_reads (P := Try.prog) (A := A1) (c := c1) (n := xs.length) Try.underlying31 Try.underlying5 Try.underlying9 (HR1.out.below hB2); have cv2 := string_of_reads (P := Try.prog) (A := A2) (c := c2) (n := xs.length) Try.underlying31 Try.underlying5 Try.underlying9 hr2; clear hO2 hB2 hr2 hc2)))
      go_round
      case measure => simp [intOf]; omega
      case rel => exact ⟨j + 1, by omega, by simp, HB2⟩
    · obtain rfl : j = 8 := by omega
      go_wp2
      go_ret
      exact ⟨rfl, HW.out⟩
end Go.Proofs.Ytfjeincceglfoaa
