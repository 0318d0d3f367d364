/- What the statements of utf ask at fixed calls: all of it comes. -/
import Derived.Test.YtgplfamdeifmjaaUtfRef3
namespace Go.Proofs.Ytgplfamdeifmjaa
open Go.RowKit Go.Proofs.YtgplfamdeifmjaaW.PrintWords

theorem alive_put : putB 8364 = [226, 130, 172] := by decide +kernel
theorem alive_next : nextV [192, 128] = (0, 0, 20) := by decide +kernel
theorem alive_cut : cutV [226, 130, 172] 2 = 0 := by decide +kernel
theorem alive_vld : vldV [226, 130, 172] = true := by decide +kernel
theorem alive_str : ((strOfNums [226, 130, 172]).toList == [226, 130, 172]) = true := by rw [sn_toList]; decide +kernel

theorem next_at (A : Option Addr) (l : List Int) (n c : Nat) (w : World) (r : Int × Nat × Int) (hn : n = l.length) (hv : nextV l = r) (hr : ReadsInt w .u8 A n l) (hby : Bytes l) (hc : n ≤ c) :
    Calls Try.prog 11 #[.slice A n c] w (NextEnds w r) := by
  subst hn; subst hv; exact next_any A l c w hr hby hc
theorem cut_at (A : Option Addr) (l : List Int) (n c : Nat) (m : Int) (w : World) (r : Int) (hn : n = l.length) (hv : cutV l m = r) (hr : ReadsInt w .u8 A n l) (hby : Bytes l) (hc : n ≤ c) (hl : n ≤ 35184372088832) :
    Calls Try.prog 14 #[.slice A n c, .int .i64 m] w fun e w' => e = .returned (.int .i64 r) ∧ Below w.heap.size w w' := by
  subst hn; subst hv; exact cut_any A l c m w hr hby hc hl
theorem valid_at (A : Option Addr) (l : List Int) (n c : Nat) (w : World) (r : Bool) (hn : n = l.length) (hv : vldV l = r) (hr : ReadsInt w .u8 A n l) (hby : Bytes l) (hc : n ≤ c) (hl : n ≤ 35184372088832) :
    Calls Try.prog 15 #[.slice A n c] w fun e w' => e = .returned (.bool r) ∧ Below w.heap.size w w' := by
  subst hn; subst hv; exact valid_any A l c w hr hby hc hl
theorem bytes_alive : Bytes [226, 130, 172] := by intro x hx; simp at hx; omega
theorem bytes_alive2 : Bytes [192, 128] := by intro x hx; simp at hx; omega

set_option maxRecDepth 100000 in
set_option maxHeartbeats 1000000 in
theorem alive_any (w : World) : Calls Try.prog 13 #[] w fun e w' => e = .returned (.bool true) ∧ Below w.heap.size w w' := by
  have HP := Lib.hid (put_ok 8364 w (by decide +kernel))
  rw [alive_put] at HP
  have hstr := alive_str
  go_enter Try.func13, Try.ntmps13
  go_wp2_with (first
    | (go_at_call 9; ((with_reducible refine HP.out.mono ?_); rintro e w1 ⟨v, rfl, hO1, hB1⟩; obtain ⟨A1, c1, rfl, hc1, hr1⟩ := hO1.reads; have HB1 := Lib.hid hB1; have HC1 := Lib.hid hc1; have HN := Lib.hid (next_at (some ⟨w1.heap.size, 0, none⟩) [192, 128] 2 2 (w1.alloc (.cells #[.int .u8 192, .int .u8 128] 5)) _ rfl alive_next (lit_reads .u8 _ w1 _ _ _ _ rfl rfl rfl (by simp)) bytes_alive2 (Nat.le_refl _)); have HR2 := Lib.hid (hr1.below (below_first (.cells #[.int .u8 192, .int .u8 128] 5))); have HB2 := Lib.hid (below_alloc HB1.out (.cells #[.int .u8 192, .int .u8 128] 5)); have cv1 := string_of_reads (P := Try.prog) (A := A1) (n := 3) (c := c1) Try.underlying22 Try.underlying5 Try.underlying9 HR2.out; have HCT := Lib.hid (cut_at A1 [226, 130, 172] 3 c1 2 _ _ rfl alive_cut HR2.out bytes_alive HC1.out (by decide)); clear hO1 hB1 hr1 hc1))
    | (go_at_call 11; ((with_reducible refine HN.out.mono ?_); rintro e w2 ⟨rfl, rfl⟩))
    | (go_at_call 14; ((with_reducible refine HCT.out.mono ?_); rintro e w3 ⟨rfl, hB3⟩; have HV := Lib.hid (valid_at A1 [226, 130, 172] 3 c1 w3 _ rfl alive_vld (HR2.out.below hB3) bytes_alive HC1.out (by decide)); have HB3 := Lib.hid (below_then HB2.out HB2.out.size hB3); clear hB3))
    | (go_at_call 15; ((with_reducible refine HV.out.mono ?_); rintro e w4 ⟨rfl, hB4⟩; have HB4 := Lib.hid (below_then HB3.out HB3.out.size hB4); clear hB4)))
  go_ret
  exact ⟨rfl, HB4.out⟩
end Go.Proofs.Ytgplfamdeifmjaa
