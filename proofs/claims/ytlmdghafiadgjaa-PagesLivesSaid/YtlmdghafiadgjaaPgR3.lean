/- The document's pages: Pack, walked. -/
import Derived.Test.YtlmdghafiadgjaaPgR2
namespace Go.Proofs.Ytlmdghafiadgjaa
set_option linter.unusedVariables false
set_option linter.unusedSimpArgs false
open Go.RowKit Go.Proofs.YtlmdghafiadgjaaW.PrintWords Go.Proofs.YtlmdghafiadgjaaW.PrintLast

theorem number2 (v : Int) (w : World) (h0 : 0 ≤ v) (h1 : v < 18446744073709551616) : Calls Try.prog 33 #[.int .u64 v, .int .i64 2] w fun e w' => ∃ r, e = .returned r ∧ ORow .u8 5 w' w.heap.size r (be 2 v) ∧ Below w.heap.size w w' := number_any v 2 w h0 h1 (by decide)
theorem number4 (v : Int) (w : World) (h0 : 0 ≤ v) (h1 : v < 18446744073709551616) : Calls Try.prog 33 #[.int .u64 v, .int .i64 4] w fun e w' => ∃ r, e = .returned r ∧ ORow .u8 5 w' w.heap.size r (be 4 v) ∧ Below w.heap.size w w' := number_any v 4 w h0 h1 (by decide)
theorem number8 (v : Int) (w : World) (h0 : 0 ≤ v) (h1 : v < 18446744073709551616) : Calls Try.prog 33 #[.int .u64 v, .int .i64 8] w fun e w' => ∃ r, e = .returned r ∧ ORow .u8 5 w' w.heap.size r (be 8 v) ∧ Below w.heap.size w w' := number_any v 8 w h0 h1 (by decide)
theorem own_rd {w : World} {base n c : Nat} {A : Option Addr} {xs : List Int} (h : ORow .u8 5 w base (.slice A n c) xs) : ReadsInt w .u8 A xs.length xs := by
  obtain ⟨A', c', he, _, hr⟩ := h.reads
  injection he with h1 h2 h3
  subst h1
  exact hr
def RPackEnds (w : World) (r : List Int × Int) (e : Ending) (w' : World) : Prop := ∃ v, e = .returned (.tuple #[v, .int .i64 r.2]) ∧ ORow .u8 5 w' w.heap.size v r.1 ∧ Below w.heap.size w w'
set_option maxRecDepth 100000 in
set_option maxHeartbeats 2000000 in
theorem rpack_bad (k n t : Int) (A : Option Addr) (m c : Nat) (w : World) (hm : m ≤ 9223372036854775807) (h : 996 < m ∨ (m ≤ 996 ∧ (n < 0 ∨ (0 ≤ n ∧ 16383 < n) ∨ (0 ≤ n ∧ n ≤ 16383 ∧ k = 0)))) :
    Calls Try.prog 11 #[.int .u8 k, .int .i64 n, .int .u64 t, .slice A m c] w (RPackEnds w ([], if 996 < m then 2 else 1)) := by
  rcases h with h | ⟨h, h2 | ⟨h2, h3⟩ | ⟨h2, h3, rfl⟩⟩
  · rw [if_pos h]
    go_enter Try.func11, Try.ntmps11
    go_wp2
    go_ret2
    exact ⟨_, rfl, ORow.nil _ _ _ _, Below.refl _ _⟩
  all_goals
    rw [if_neg (by omega)]
    go_enter Try.func11, Try.ntmps11
    go_wp2
    go_ret2
    exact ⟨_, rfl, ORow.nil _ _ _ _, Below.refl _ _⟩
theorem two_row (k : Int) (W : World) : RowU (W.alloc (.cells #[.int .u8 k, .int .u8 0] 5)) W.heap.size [k, 0] := by unfold RowU; rw [heap_alloc_last]; rfl
theorem make996 (W : World) : (Instr.makeSlice 23 (.int .i64 996) (.int .i64 996)).run Try.prog W = .ok (.slice (some ⟨W.heap.size, 0, none⟩) 996 996) (W.alloc (.cells (madeCells #[.int .u8 0] 996) 5)) := make_u8 996 (by decide) W
/-- Of two rows, the first is older. -/
theorem own_keep_far {w w' : World} {base : Nat} {v : Value} {xs : List Int} (h : ORow .u8 5 w base v xs) {row : Option Nat} (hg : w.grownBy w' row) (hr : ∀ g, row = some g → g < base) : ORow .u8 5 w' base v xs :=
  own_keep h (fun g hgv => hg.block g (own_lt h g hgv) (fun e => by have := hr g e.symm; have := own_base h g hgv; omega))
theorem splice_step (c : List Int) (i : Nat) (h : i < c.length) (hc : c.length ≤ 996) : (c.take i ++ List.replicate (996 - i) 0).set i (rd c (i : Int)) = c.take (i + 1) ++ List.replicate (996 - (i + 1)) 0 := by
  have hl : (c.take i).length = i := by rw [List.length_take]; omega
  rw [List.set_append_right _ _ (by omega), hl, Nat.sub_self, show 996 - i = (996 - (i + 1)) + 1 by omega, List.replicate_succ, List.set_cons_zero, List.take_succ_eq_append_getElem h, rd_lt c i h, List.append_assoc]
  rfl
-- OK
set_option maxRecDepth 100000 in
set_option maxHeartbeats 4000000 in
theorem rpack_ok (k n t : Int) (A : Option Addr) (c : Nat) (xs : List Int) (w : World) (h : PkOk k n t xs) (hr : ReadsInt w .u8 A xs.length xs) :
    Calls Try.prog 11 #[.int .u8 k, .int .i64 n, .int .u64 t, .slice A xs.length c] w (RPackEnds w (packL k n t xs, 0)) := by
  obtain ⟨hk0, hk1, hn0, hn2, ht0, ht1, hm, hcb⟩ := h
  have hn1 : n < 18446744073709551616 := by omega
  have hm0 : (0 : Int) ≤ (xs.length : Int) := by omega
  have hm1 : (xs.length : Int) < 18446744073709551616 := by omega
  have hwn := u64_id hn0 hn1
  have hwm := u64_id hm0 hm1
  have hk : (k == 0) = false := by simp; omega
  have hmk := make996
  have HR := Lib.hid hr
  have HO0 : Hid (ORow .u8 5 (w.alloc (.cells #[.int .u8 k, .int .u8 0] 5)) w.heap.size (.slice (some ⟨w.heap.size, 0, none⟩) 2 2) [k, 0]) := Lib.hid ((two_row k w).own (Nat.le_refl _) rfl (by simp))
  have HB0 := Lib.hid (below_first (w := w) (.cells #[.int .u8 k, .int .u8 0] 5))
  have L2 := Lib.hid (be_len 2 (xs.length : Int))
  have L4 := Lib.hid (be_len 4 n)
  have L8 := Lib.hid (be_len 8 t)
  have HPL : Hid (packL k n t xs = ([k, 0] ++ be 2 (xs.length : Int) ++ be 4 n ++ be 8 t) ++ be 4 (sumV (([k, 0] ++ be 2 (xs.length : Int) ++ be 4 n ++ be 8 t) ++ (xs ++ List.replicate (996 - xs.length) 0 ++ be 8 t))) ++ (xs ++ List.replicate (996 - xs.length) 0 ++ be 8 t)) := Lib.hid rfl
  have HY := Lib.hid (And.intro (be_bytes 2 (xs.length : Int)) (And.intro (be_bytes 4 n) (be_bytes 8 t)))
  have HN0 := Lib.hid (And.intro hn0 hn1)
  have HM0 := Lib.hid (And.intro hm0 hm1)
  have HT0 := Lib.hid (And.intro ht0 ht1)
  have N2 := Lib.hid (fun W => number2 (xs.length : Int) W HM0.out.1 HM0.out.2)
  have N4 := Lib.hid (fun W => number4 n W HN0.out.1 HN0.out.2)
  have N8 := Lib.hid (fun W => number8 t W HT0.out.1 HT0.out.2)
  clear hn1 hm0 hm1 ht1
  generalize packL k n t xs = PL at *
  generalize be 2 (xs.length : Int) = b2 at *
  generalize be 4 n = b4 at *
  generalize be 8 t = b8 at *
  clear hr
  go_enter Try.func11, Try.ntmps11
  go_wp2_with (first
    | (go_at_call 33; ((with_reducible refine (N2.out _).mono ?_); rintro e w1 ⟨r1, rfl, hO1, hB1⟩; obtain ⟨A1, c1, rfl, _, hr1⟩ := hO1.reads; have HX1 := Lib.hid hr1; have HH1 := Lib.hid (HO0.out.below hB1); have HB1 := Lib.hid (below_then HB0.out HB0.out.size hB1); clear hO1 hB1 hr1))
    | (at_builtin; refine print_append_row (w0 := w) w.heap.size rfl (.tmp 28) (.tmp 32) 23 5 .u8 1 rfl Try.underlying23 infoU8 (by decide) _ [k, 0] b2 _ _ _ rfl rfl HH1.out HX1.out HB1.out HB1.out.size (by rw [L2.out]; exact (by decide : (2 + 2) * 1 ≤ 140737488355328)) ?_; intro v2 w2 hO2 hb2 _ _; have HO2 : Hid (ORow .u8 5 w2 w.heap.size v2 ([k, 0] ++ b2)) := Lib.hid hO2; have HB2 := Lib.hid hb2; clear hO2 hb2)
    | (go_at_call 33; ((with_reducible refine (N4.out _).mono ?_); rintro e w3 ⟨r3, rfl, hO3, hB3⟩; obtain ⟨A3, c3, rfl, _, hr3⟩ := hO3.reads; have HX3 := Lib.hid hr3; have HH3 := Lib.hid (HO2.out.below hB3); have HB3 := Lib.hid (below_then HB2.out HB2.out.size hB3); clear hO3 hB3 hr3))
    | (at_builtin; refine print_append_row (w0 := w) w.heap.size rfl (.tmp 34) (.tmp 37) 23 5 .u8 1 rfl Try.underlying23 infoU8 (by decide) _ ([k, 0] ++ b2) b4 _ _ _ rfl rfl HH3.out HX3.out HB3.out HB3.out.size (by rw [List.length_append, L2.out, L4.out]; exact (by decide : (2 + 2 + 4) * 1 ≤ 140737488355328)) ?_; intro v4 w4 hO4 hb4 _ _; have HO4 : Hid (ORow .u8 5 w4 w.heap.size v4 ([k, 0] ++ b2 ++ b4)) := Lib.hid hO4; have HB4 := Lib.hid hb4; clear hO4 hb4)
    | (go_at_call 33; ((with_reducible refine (N8.out _).mono ?_); rintro e w5 ⟨r5, rfl, hO5, hB5⟩; obtain ⟨A5, c5, rfl, _, hr5⟩ := hO5.reads; have HX5 := Lib.hid hr5; have HH5 := Lib.hid (HO4.out.below hB5); have HB5 := Lib.hid (below_then HB4.out HB4.out.size hB5); clear hO5 hB5 hr5))
    | (at_builtin; refine print_append_row (w0 := w) w.heap.size rfl (.tmp 39) (.tmp 41) 23 5 .u8 1 rfl Try.underlying23 infoU8 (by decide) _ ([k, 0] ++ b2 ++ b4) b8 _ _ _ rfl rfl HH5.out HX5.out HB5.out HB5.out.size (by rw [List.length_append, List.length_append, L2.out, L4.out, L8.out]; exact (by decide : (2 + 2 + 4 + 8) * 1 ≤ 140737488355328)) ?_; intro vh w6 hO6 hb6 _ _; have HO6 : Hid (ORow .u8 5 w6 w.heap.size vh ([k, 0] ++ b2 ++ b4 ++ b8)) := Lib.hid hO6; have HB6 := Lib.hid hb6; have HM6 := Lib.hid (made_u8 996 w6); have HF6 := Lib.hid (below_first (w := w6) (.cells (madeCells #[.int .u8 0] 996) 5)); clear hO6 hb6))
  have HHL : Hid (([k, 0] ++ b2 ++ b4 ++ b8).length = 16) := Lib.hid (by simp [L2.out, L4.out, L8.out])
  have HHB : Hid (Bytes ([k, 0] ++ b2 ++ b4 ++ b8)) := Lib.hid (by
    obtain ⟨y2, y4, y8⟩ := HY.out
    refine Bytes.append (Bytes.append (Bytes.append (fun x hx => ?_) y2) y4) y8
    simp only [List.mem_cons, List.not_mem_nil, or_false] at hx
    rcases hx with rfl | rfl <;> omega)
  generalize [k, 0] ++ b2 ++ b4 ++ b8 = hd at *
  obtain ⟨Ah, ch, rfl, _, _⟩ := HO6.out.reads
  have HAH : Hid (∀ g, (Value.slice Ah hd.length ch).ownBlock = some g → g < w6.heap.size) := Lib.hid (own_lt HO6.out)
  go_wp2
  have HR0 := HR
  clear HX1 HH1 HB1 HO2 HB2 HX3 HH3 HB3 HO4 HB4 HX5 HH5 HB5 HO0 HB0
  go_loopw [12] (fun s12 wr => ∃ i : Nat, i ≤ xs.length ∧ s12 = .int .i64 i ∧ Hid (RowU wr w6.heap.size (xs.take i ++ List.replicate (996 - i) 0)) ∧ Hid (Below w6.heap.size w6 wr)) (fun s12 _ => xs.length - (intOf s12).toNat)
  case atStart => exact ⟨0, Nat.zero_le _, rfl, Lib.hid (by rw [List.take_zero, List.nil_append]; exact HM6.out), HF6⟩
  case round =>
    obtain ⟨i, hi, rfl, HRW, HBW⟩ := hrel
    by_cases hlt : i < xs.length
    · have hsrc := reads_below8 HR.out (below_then HB6.out HB6.out.size HBW.out)
      obtain ⟨ad, rfl, hc⟩ := hsrc.2.2 (by omega)
      have hcj := hc i hlt
      rw [show (.int .u8 (xs.getD i 0) : Value) = .int .u8 (rd xs (i : Int)) from by simp [rd]] at hcj
      have fj := blk_frozen HRW.out i
      have ej : wr.cell? ⟨w6.heap.size, i, none⟩ = some (.int .u8 0) := by
        refine (blk_cell HRW.out i).trans ?_
        simp only [nums, List.map_append, List.map_replicate, List.getElem?_toArray]
        rw [List.getElem?_append_right (by rw [List.length_map, List.length_take]; omega), List.getElem?_replicate, if_pos (by rw [List.length_map, List.length_take]; omega)]
      have HN := Lib.hid (by have h9 := HRW.out.set_ i (rd xs (i : Int)); rw [splice_step xs i hlt hm] at h9; exact h9)
      generalize rd xs (i : Int) = u at *
      clear hsrc hc
      go_wp2
      go_roundw
      case rel => exact ⟨i + 1, by omega, by go_num, HN, Lib.hid (HBW.out.setCell (p := ⟨w6.heap.size, i, none⟩) (Nat.le_refl _) _)⟩
      case measure => simp [intOf]; omega
    · obtain rfl : i = xs.length := by omega
      rw [List.take_of_length_le (Nat.le_refl _)] at HRW
      have HRL : Hid ((xs ++ List.replicate (996 - xs.length) 0).length = 996) := Lib.hid (by simp; omega)
      have HRB : Hid (Bytes (xs ++ List.replicate (996 - xs.length) 0)) := Lib.hid (hcb.append (zeros_bytes _))
      have HRO := Lib.hid (HRW.out.own (base := w6.heap.size) (n := 996) (Nat.le_refl _) HRL.out.symm (by rw [HRL.out]; decide))
      generalize xs ++ List.replicate (996 - xs.length) 0 = rst at *
      obtain ⟨RB, hRB⟩ : ∃ RB, rst ++ b8 = RB := ⟨_, rfl⟩
      have HSL : Hid (RB.length = 1004) := Lib.hid (by rw [← hRB, List.length_append, HRL.out, L8.out])
      have HBA : Hid (Bytes (hd ++ RB)) := Lib.hid (HHB.out.append (by rw [← hRB]; exact HRB.out.append HY.out.2.2))
      rw [hRB] at HPL
      have HRE := Lib.hid hRB
      clear hRB
      obtain ⟨AL, hAL⟩ : ∃ AL, hd ++ RB = AL := ⟨_, rfl⟩
      rw [hAL] at HBA HPL
      have HAE := Lib.hid hAL
      clear hAL
      obtain ⟨SV, hSV⟩ : ∃ SV, sumV AL = SV := ⟨_, rfl⟩
      have HSV : Hid (0 ≤ SV ∧ SV < 18446744073709551616) := Lib.hid (by have := sumV_range AL; omega)
      rw [hSV] at HPL
      obtain ⟨HS, hHS⟩ : ∃ HS, hd ++ be 4 SV = HS := ⟨_, rfl⟩
      have HTL : Hid (HS.length = 20) := Lib.hid (by rw [← hHS, List.length_append, HHL.out, be_len])
      rw [hHS] at HPL
      have HHE := Lib.hid hHS
      clear hHS
      have HSE := Lib.hid hSV
      clear hSV
      go_wp2_with (first
      | (go_at_call 33; ((with_reducible refine (N8.out _).mono ?_); rintro e w8 ⟨r8, rfl, hO8, hB8⟩; obtain ⟨A8, c8, rfl, _, hr8⟩ := hO8.reads; have HX8 := Lib.hid hr8; have HR8 := Lib.hid (HRO.out.below hB8); have HB8 := Lib.hid (below_then HBW.out HBW.out.size hB8); clear hO8 hB8 hr8))
      | (at_builtin; refine print_append_row (w0 := w6) w6.heap.size rfl (.tmp 57) (.tmp 59) 23 5 .u8 1 rfl Try.underlying23 infoU8 (by decide) _ rst b8 _ _ _ rfl rfl HR8.out HX8.out HB8.out HB8.out.size (by rw [HRL.out, L8.out]; decide) ?_; intro v9 w9 hO9 hb9 _ _; rw [HRE.out] at hO9; obtain ⟨A9, c9, rfl, _, hr9⟩ := ORow.reads hO9; have HO9 : Hid (ORow .u8 5 w9 w6.heap.size (.slice A9 RB.length c9) RB) := Lib.hid hO9; have HB9 := Lib.hid hb9; have HH9 := Lib.hid (HO6.out.below hb9); have HC9 := Lib.hid (copy_any Ah _ ch hd w9 (own_rd HH9.out) (by rw [HHL.out]; decide)); clear hO9 hb9 hr9)
      | (go_at_call 35; ((with_reducible refine HC9.out.mono ?_); rintro e w10 ⟨v10, rfl, hO10, hB10⟩; obtain ⟨A10, c10, rfl, _, _⟩ := hO10.reads; have HO10 := Lib.hid hO10; have HX10 := Lib.hid (own_rd (HO9.out.below hB10)); have HB10 := Lib.hid hB10; clear hO10 hB10))
      | (at_builtin; refine print_append_row (w0 := w9) w9.heap.size rfl (.tmp 62) (.tmp 63) 23 5 .u8 1 rfl Try.underlying23 infoU8 (by decide) _ hd RB _ _ _ rfl rfl HO10.out HX10.out HB10.out HB10.out.size (by rw [HHL.out, HSL.out]; decide) ?_; intro v11 w11 hO11 hb11 _ _; rw [HAE.out] at hO11; obtain ⟨A11, c11, rfl, _, hr11⟩ := ORow.reads hO11; have HB11 := Lib.hid hb11; have HS11 := Lib.hid (by have h9 := rsum_any A11 _ c11 _ w11 hr11 HBA.out; rw [HSE.out] at h9; exact h9); clear hO11 hb11 hr11)
      | (go_at_call 34; ((with_reducible refine HS11.out.mono ?_); rintro e w12 ⟨rfl, rfl⟩; have HH12 := Lib.hid (HH9.out.below HB11.out); have HR12 := Lib.hid (HO9.out.below HB11.out); have HB12 := Lib.hid (below_then HB9.out HB9.out.size HB11.out)))
      | (go_at_call 33; ((with_reducible refine (number4 _ _ HSV.out.1 HSV.out.2).mono ?_); rintro e w13 ⟨r13, rfl, hO13, hB13⟩; obtain ⟨A13, c13, rfl, _, hr13⟩ := hO13.reads; have HX13 := Lib.hid hr13; have HH13 := Lib.hid (HH12.out.below hB13); have HR13 := Lib.hid (HR12.out.below hB13); have HB13 := Lib.hid (below_then (below_then HB6.out HB6.out.size HB12.out) (below_then HB6.out HB6.out.size HB12.out).size hB13); clear hO13 hB13 hr13))
      | (at_builtin; refine print_append_row (w0 := w) w.heap.size rfl (.tmp 66) (.tmp 68) 23 5 .u8 1 rfl Try.underlying23 infoU8 (by decide) _ hd (be 4 SV) _ _ _ rfl rfl HH13.out HX13.out HB13.out HB13.out.size (by rw [HHL.out, be_len]; decide) ?_; intro v14 w14 hO14 hb14 hg14 _; rw [HHE.out] at hO14; obtain ⟨A14, c14, rfl, _, hr14⟩ := ORow.reads hO14; have HO14 : Hid (ORow .u8 5 w14 w.heap.size (.slice A14 HS.length c14) HS) := Lib.hid hO14; have HB14 := Lib.hid hb14; have HX14 := Lib.hid (own_rd (own_keep_far HR13.out hg14 HAH.out)); clear hO14 hb14 hr14 hg14)
      | (at_builtin; refine print_append_row (w0 := w) w.heap.size rfl (.tmp 69) (.tmp 70) 23 5 .u8 1 rfl Try.underlying23 infoU8 (by decide) _ HS RB _ _ _ rfl rfl HO14.out HX14.out HB14.out HB14.out.size (by rw [HTL.out, HSL.out]; decide) ?_; intro v15 w15 hO15 hb15 _ _; have HO15 : Hid (ORow .u8 5 w15 w.heap.size v15 (HS ++ RB)) := Lib.hid hO15; have HB15 := Lib.hid hb15; clear hO15 hb15))
      go_ret2
      exact ⟨v15, rfl, by rw [HPL.out]; exact HO15.out, HB15.out⟩
theorem rpack_any (k n t : Int) (A : Option Addr) (c : Nat) (xs : List Int) (w : World) (hr : ReadsInt w .u8 A xs.length xs) (hx : Bytes xs) (hk : 0 ≤ k ∧ k ≤ 255) (ht : 0 ≤ t ∧ t < 18446744073709551616) :
    Calls Try.prog 11 #[.int .u8 k, .int .i64 n, .int .u64 t, .slice A xs.length c] w (RPackEnds w (packV k n t xs)) := by
  by_cases h : 996 < xs.length ∨ (xs.length ≤ 996 ∧ (n < 0 ∨ (0 ≤ n ∧ 16383 < n) ∨ (0 ≤ n ∧ n ≤ 16383 ∧ k = 0)))
  · have e : packV k n t xs = ([], if 996 < xs.length then 2 else 1) := by
      unfold packV
      by_cases h1 : 996 < xs.length
      · rw [if_pos h1, if_pos h1]
      · rw [if_neg h1, if_neg h1, if_pos (by omega)]
    rw [e]
    exact rpack_bad k n t A _ c w hr.2.1 h
  · have e : packV k n t xs = (packL k n t xs, 0) := by
      unfold packV
      rw [if_neg (by omega), if_neg (by omega)]
    rw [e]
    exact rpack_ok k n t A c xs w ⟨by omega, hk.2, by omega, by omega, ht.1, ht.2, by omega, hx⟩ hr
end Go.Proofs.Ytlmdghafiadgjaa
