/- pages: alive. -/
import Derived.Test.YtlmdghafiadgjaaPgA
import Derived.Lib.SlBytesConst
namespace Go.Proofs.Ytlmdghafiadgjaa
set_option linter.unusedVariables false
set_option linter.unusedSimpArgs false
open Go.RowKit Go.Proofs.YtlmdghafiadgjaaW.PrintWords Go.Proofs.YtlmdghafiadgjaaW.PrintLast

theorem by_97 : Bytes [97, 98] := by intro x hx; simp at hx; omega
theorem by_120 : Bytes [120] := by intro x hx; simp at hx; omega
theorem ay_s1 : ((strOfNums [120]).toList == [120]) = true := by rw [sn_toList]; decide +kernel
theorem ay_s2 : ((strOfNums [97, 98]).toList == [97, 98]) = true := by rw [sn_toList]; decide +kernel
set_option maxRecDepth 100000 in
set_option maxHeartbeats 4000000 in
theorem alive_any (w : World) : Calls Try.prog 9 #[] w fun e w' => e = .returned (.bool true) ∧ Below w.heap.size w w' := by
  have ss1 := ay_s1
  have kc := fun (w : World) (C : Array Value) (n c : Nat) => Lib.run_convert_bytes_const (P := Try.prog) w 23 5 C n c Try.underlying23 Try.underlying5
  have ss2 := ay_s2
  have HN := Lib.hid (ld_new 16 w (by decide) (by decide))
  have HLW := Lib.hid (fun W => (show ReadsInt (W.alloc (.cells #[.int .u8 97, .int .u8 98] 5 (2, 3))) .u8 (some ⟨W.heap.size, 0, none⟩) 2 [97, 98] from reads_blk .u8 (xs := [97, 98]) (heap_alloc_last W _) (by decide)))
  have HLC := Lib.hid (fun W => (show ReadsInt (W.alloc (.cells #[.int .u8 120] 5 (1, 2))) .u8 (some ⟨W.heap.size, 0, none⟩) 1 [120] from reads_blk .u8 (xs := [120]) (heap_alloc_last W _) (by decide)))
  have E1 := Lib.hid ay_o1
  have E2 := Lib.hid ay_o2
  have E3 := Lib.hid ay_o3
  have E4 := Lib.hid ay_o4
  have E5 := Lib.hid ay_r2
  have E6 := Lib.hid ay_r3
  have E7 := Lib.hid ay_sz
  have E8 := Lib.hid ay_q
  have W1 := Lib.hid ay_w
  have W2 := Lib.hid ay_wb
  have W3 := Lib.hid ay_c
  have W4 : Hid (swriteV (newD 16) 0 false 2 5 [97, 98] = ay1) := Lib.hid rfl
  have W5 : Hid (scommitV ay1.2.1 0 [] false [120] = ay2) := Lib.hid rfl
  have q0 : Hid ((newD 16).after ≤ 9223372036854775807 ∧ (newD 16).pend.length ≤ 999998000) := Lib.hid (by decide)
  generalize newD 16 = D0 at *
  generalize ay1 = r1 at *
  generalize ay2 = r2 at *
  obtain ⟨a1, a2, a3⟩ := r1
  obtain ⟨b1, b2, b3, b4, b5⟩ := r2
  obtain rfl : a1 = 0 := W1.out
  obtain rfl : a3 = false := W2.out
  obtain rfl : b1 = 0 := W3.out
  go_enter Try.func9, Try.ntmps9
  go_wp2_with (first
    | (go_at_call 21; ((with_reducible refine HN.out.mono ?_); rintro e w1 ⟨b, rfl, hD⟩; have HD := Lib.hid hD; have HO := Lib.hid (ld_open hD E1.out E2.out); clear hD))
    | (go_at_call 14; ((with_reducible refine HO.out.mono ?_); rintro e w2 ⟨p, rfl, hS, _, _⟩; have HS2 := Lib.hid hS; have HT2 := Lib.hid (lp_turn hS); have HW2 := Lib.hid (lp_write (hS.below (below_first (.cells #[.int .u8 97, .int .u8 98] 5 (2, 3)))) 2 5 _ 2 2 [97, 98] (HLW.out w2) by_97 (by decide) q0.out W4.out); clear hS))
    | (go_at_call 20; ((with_reducible refine HT2.out.mono ?_); rintro e w3 ⟨rfl, rfl⟩))
    | (go_at_call 16; ((with_reducible refine HW2.out.mono ?_); rintro e w3 ⟨rfl, hS⟩; have HS3 := Lib.hid hS; have HC3 := Lib.hid (lp_commit hS (below_first (.cells #[.int .u8 120] 5 (1, 2))) _ 1 1 [120] (HLC.out w3) by_120 (fun _ ad e => by cases e; exact .inr (Nat.le_refl _)) E8.out W5.out); clear hS))
    | (go_at_call 17; ((with_reducible refine HC3.out.mono ?_); rintro e w4 ⟨rfl, hS⟩; have HS4 := Lib.hid hS; have HO4 := Lib.hid (ld_open hS.ld E3.out E4.out); clear hS))
    | (go_at_call 14; ((with_reducible refine HO4.out.mono ?_); rintro e w5 ⟨p2, rfl, hS, _, hB⟩; have HS5 := Lib.hid hS; have HZ5 := Lib.hid (HS4.out.below hB); have HR5 := Lib.hid (lp_read hS 2 E5.out); clear hS hB))
    | (go_at_call 15; ((with_reducible refine HR5.out.mono ?_); rintro e w6 ⟨v6, rfl, hO6, hB6⟩; obtain ⟨A6, c6, rfl, _, hx6⟩ := hO6.reads; have HX6 := Lib.hid hx6; have HS6 := Lib.hid (HS5.out.below hB6); have HZ6 := Lib.hid (HZ5.out.below hB6); have HR6 := Lib.hid (lp_read HS6.out 3 E6.out); clear hO6 hB6 hx6))
    | (go_at_call 15; ((with_reducible refine HR6.out.mono ?_); rintro e w7 ⟨v7, rfl, hO7, hB7⟩; have HX7 := Lib.hid (HX6.out.below hB7); have HS7 := Lib.hid (HS6.out.below hB7); have HZ7 := Lib.hid (HZ6.out.below hB7); have HT7 := Lib.hid (lp_turn HS7.out); have HR7 := Lib.hid (lp_root HS7.out (by decide)); clear hO7 hB7))
    | (go_at_call 20; ((with_reducible refine HT7.out.mono ?_); rintro e w8 ⟨rfl, rfl⟩))
    | (go_at_call 19; ((with_reducible refine HR7.out.mono ?_); rintro e w9 ⟨v9, rfl, hO9, hB9⟩; obtain ⟨A9, c9, rfl, _, hx9⟩ := hO9.reads; have hx8 := HX7.out.below hB9; have kc1 : (convert 23 9 (.slice A9 1 c9)).run Try.prog w9 = .ok (.string (strOfNums [120])) w9 := string_of_reads (P := Try.prog) (c := c9) Try.underlying23 Try.underlying5 Try.underlying9 hx9; have kc2 : (convert 23 9 (.slice A6 2 c6)).run Try.prog w9 = .ok (.string (strOfNums [97, 98])) w9 := string_of_reads (P := Try.prog) (c := c6) Try.underlying23 Try.underlying5 Try.underlying9 hx8; have HZ9 := Lib.hid (HZ7.out.below hB9); have HP9 := Lib.hid (lp_pages HZ9.out.ld HZ9.out.ptr E7.out); clear hO9 hB9 hx9 hx8))
    | (go_at_call 18; ((with_reducible refine HP9.out.mono ?_); rintro e w10 ⟨rfl, rfl⟩)))
  go_ret
  exact ⟨rfl, HZ9.out.all⟩
end Go.Proofs.Ytlmdghafiadgjaa
