/- The walks of the statements UtfTexts and UtfBack. -/
import Derived.Test.YtgplfamdeifmjaaUtfJoins
namespace Go.Proofs.Ytgplfamdeifmjaa
open Go.RowKit Go.Proofs.YtgplfamdeifmjaaW.PrintWords

set_option maxRecDepth 100000 in
set_option maxHeartbeats 1000000 in
theorem texts_early (A B : Option Addr) (a b : List Int) (c d : Nat) (m : Int) (w : World) (ha : a.length ≤ 9223372036854775807) (hb : b.length ≤ 9223372036854775807)
    (h : 2000 < a.length ∨ 1000 < b.length) :
    Calls Try.prog 7 #[.slice A a.length c, .slice B b.length d, .int .i64 m] w fun e w' => e = .returned (.bool true) ∧ Below w.heap.size w w' := by
  by_cases h1 : 2000 < a.length
  · go_enter Try.func7, Try.ntmps7
    go_wp2_with (first | (go_at_call 13; ((with_reducible refine (alive_any _).mono ?_); rintro e w1 ⟨rfl, hB1⟩; have HB1 := Lib.hid hB1; clear hB1)))
    go_ret
    exact ⟨rfl, HB1.out⟩
  · have h2 : 1000 < b.length := by omega
    go_enter Try.func7, Try.ntmps7
    go_wp2_with (first | (go_at_call 13; ((with_reducible refine (alive_any _).mono ?_); rintro e w1 ⟨rfl, hB1⟩; have HB1 := Lib.hid hB1; clear hB1)))
    go_ret
    exact ⟨rfl, HB1.out⟩

set_option maxRecDepth 100000 in
set_option maxHeartbeats 1000000 in
theorem texts_late (A B : Option Addr) (a b : List Int) (c d : Nat) (m : Int) (w : World) (ha : ReadsInt w .u8 A a.length a) (hab : Bytes a) (hac : a.length ≤ c) (hb : ReadsInt w .i32 B b.length b)
    (hm : -9223372036854775808 ≤ m ∧ m ≤ 9223372036854775807) (h1 : a.length ≤ 2000) (h2 : b.length ≤ 1000) :
    Calls Try.prog 7 #[.slice A a.length c, .slice B b.length d, .int .i64 m] w fun e w' => e = .returned (.bool true) ∧ Below w.heap.size w w' := by
  have HRA := Lib.hid ha
  have HRB := Lib.hid hb
  have HP1 := Lib.hid (points_any A a c w ha hab hac (by omega))
  have HP2 := Lib.hid (fun (w1 : World) (h : Below w.heap.size w w1) => rpoints_any A a c w1 (HRA.out.below h) hab hac (by omega))
  have HT1 := Lib.hid (fun (w1 : World) (h : Below w.heap.size w w1) => text_any B b d w1 (HRB.out.below h) (by omega))
  have HT2 := Lib.hid (fun (w1 : World) (h : Below w.heap.size w w1) => rtext_any B b d w1 (HRB.out.below h) (by omega))
  have HV1 := Lib.hid (fun (w1 : World) (h : Below w.heap.size w w1) => valid_any A a c w1 (HRA.out.below h) hab hac (by omega))
  have HV2 := Lib.hid (fun (w1 : World) (h : Below w.heap.size w w1) => rvalid_any A a c w1 (HRA.out.below h) hab hac (by omega))
  have HC1 := Lib.hid (fun (w1 : World) (h : Below w.heap.size w w1) => cut_any A a c m w1 (HRA.out.below h) hab hac (by omega))
  have HC2 := Lib.hid (fun (w1 : World) (h : Below w.heap.size w w1) => rcut_any A a c m w1 (HRA.out.below h) hab hac (by omega) hm)
  clear ha hb hab hac hm
  generalize ptsV a = pv at *
  generalize txtV b = tv at *
  obtain ⟨ps, at_, code⟩ := pv
  obtain ⟨ts, at2, code2⟩ := tv
  generalize vldV a = vv at *
  generalize cutV a m = cc at *
  go_enter Try.func7, Try.ntmps7
  go_wp2_with (first
    | (go_at_call 16; ((with_reducible refine HP1.out.mono ?_); rintro e w1 ⟨v1, rfl, hO1, hB1⟩; obtain ⟨A1, c1, rfl, hc1, hr1⟩ := hO1.reads; have HB1 := Lib.hid (below_alloc hB1 (.cells #[.int .i64 at_, .int .i64 code] 36)); have HR1 := Lib.hid (hr1.below (below_first (.cells #[.int .i64 at_, .int .i64 code] 36))); have HQ := Lib.hid (HP2.out _ HB1.out); clear hO1 hB1 hr1 hc1))
    | (go_at_call 18; ((with_reducible refine HQ.out.mono ?_); rintro e w2 ⟨v2, rfl, hO2, hB2⟩; obtain ⟨A2, c2, rfl, hc2, hr2⟩ := hO2.reads; have HX2 := Lib.hid (below_alloc hB2 (.cells #[.int .i64 at_, .int .i64 code] 36)); have HB2 := Lib.hid (below_then HB1.out HB1.out.size HX2.out); have HR2 := Lib.hid (hr2.below (below_first (.cells #[.int .i64 at_, .int .i64 code] 36))); have HQ3 := Lib.hid (HT1.out _ HB2.out); clear hO2 hB2 hr2 hc2))
    | (go_at_call 19; ((with_reducible refine HQ3.out.mono ?_); rintro e w3 ⟨v3, rfl, hO3, hB3⟩; obtain ⟨A3, c3, rfl, hc3, hr3⟩ := hO3.reads; have HX3 := Lib.hid (below_alloc hB3 (.cells #[.int .i64 at2, .int .i64 code2] 36)); have HB3 := Lib.hid (below_then HB2.out HB2.out.size HX3.out); have HR3 := Lib.hid (hr3.below (below_first (.cells #[.int .i64 at2, .int .i64 code2] 36))); have HQ4 := Lib.hid (HT2.out _ HB3.out); clear hO3 hB3 hr3 hc3))
    | (go_at_call 20; ((with_reducible refine HQ4.out.mono ?_); rintro e w4 ⟨v4, rfl, hO4, hB4⟩; obtain ⟨A4, c4, rfl, hc4, hr4⟩ := hO4.reads; have HX4 := Lib.hid (below_alloc hB4 (.cells #[.int .i64 at2, .int .i64 code2] 36)); have HB4 := Lib.hid (below_then HB3.out HB3.out.size HX4.out); have HR4 := Lib.hid (hr4.below (below_first (.cells #[.int .i64 at2, .int .i64 code2] 36))); have HX3b := Lib.hid (below_then HX3.out HX3.out.size HX4.out); have HX2b := Lib.hid (below_then HX2.out HX2.out.size HX3b.out); clear hO4 hB4 hr4 hc4))
    | (go_at_call 13; ((with_reducible refine (alive_any _).mono ?_); rintro e wa ⟨rfl, hBa⟩; have HBa := Lib.hid hBa; have HSM := Lib.hid (rsame_any A1 A2 ps ps c1 c2 wa (HR1.out.below (below_then HX2b.out HX2b.out.size hBa)) (HR2.out.below (below_then HX3b.out HX3b.out.size hBa))); simp only [decide_true] at HSM; clear hBa))
    | (go_at_call 17; ((with_reducible refine HSM.out.mono ?_); rintro e ws ⟨rfl, hBs⟩; have HBs := Lib.hid (below_then HBa.out HBa.out.size hBs); clear hBs; have h3 := Lib.hid (below_then HX4.out HX4.out.size HBs.out); have h2 := Lib.hid (below_then HX3.out HX3.out.size h3.out); have h1_ := Lib.hid (below_then HX2.out HX2.out.size h2.out); have c10 : ws.cell? ⟨w1.heap.size, 0, none⟩ = some (.int .i64 at_) := pw_cell_below h1_.out (by go_simp); have c11 : ws.cell? ⟨w1.heap.size, 1, none⟩ = some (.int .i64 code) := pw_cell_below h1_.out (by go_simp); have c20 : ws.cell? ⟨w2.heap.size, 0, none⟩ = some (.int .i64 at_) := pw_cell_below h2.out (by go_simp); have c21 : ws.cell? ⟨w2.heap.size, 1, none⟩ = some (.int .i64 code) := pw_cell_below h2.out (by go_simp); have c30 : ws.cell? ⟨w3.heap.size, 0, none⟩ = some (.int .i64 at2) := pw_cell_below h3.out (by go_simp); have c31 : ws.cell? ⟨w3.heap.size, 1, none⟩ = some (.int .i64 code2) := pw_cell_below h3.out (by go_simp); have c40 : ws.cell? ⟨w4.heap.size, 0, none⟩ = some (.int .i64 at2) := pw_cell_below HBs.out (by go_simp); have c41 : ws.cell? ⟨w4.heap.size, 1, none⟩ = some (.int .i64 code2) := pw_cell_below HBs.out (by go_simp); have cv1 := string_of_reads (P := Try.prog) (A := A3) (c := c3) (n := ts.length) Try.underlying22 Try.underlying5 Try.underlying9 (HR3.out.below h3.out); have cv2 := string_of_reads (P := Try.prog) (A := A4) (c := c4) (n := ts.length) Try.underlying22 Try.underlying5 Try.underlying9 (HR4.out.below HBs.out); have HBS := Lib.hid (below_then HB4.out HB4.out.size HBs.out); have HV1s := Lib.hid (HV1.out _ HBS.out)))
    | (go_at_call 15; ((with_reducible refine HV1s.out.mono ?_); rintro e w6 ⟨rfl, hB6⟩; have HB6 := Lib.hid (below_then HBS.out HBS.out.size hB6); have HV2s := Lib.hid (HV2.out _ HB6.out); clear hB6))
    | (go_at_call 21; ((with_reducible refine HV2s.out.mono ?_); rintro e w7 ⟨rfl, hB7⟩; have HB7 := Lib.hid (below_then HB6.out HB6.out.size hB7); have HC1s := Lib.hid (HC1.out _ HB7.out); clear hB7))
    | (go_at_call 14; ((with_reducible refine HC1s.out.mono ?_); rintro e w8 ⟨rfl, hB8⟩; have HB8 := Lib.hid (below_then HB7.out HB7.out.size hB8); have HC2s := Lib.hid (HC2.out _ HB8.out); clear hB8))
    | (go_at_call 22; ((with_reducible refine HC2s.out.mono ?_); rintro e w9 ⟨rfl, hB9⟩; have HB9 := Lib.hid (below_then HB8.out HB8.out.size hB9); clear hB9)))
  go_ret
  exact ⟨rfl, HB9.out⟩

theorem encB_le : ∀ l : List Int, (encB l).length ≤ 4 * l.length
  | [] => by simp [encB]
  | p :: t => by have := putB_len p; have := encB_le t; simp [encB]; omega
theorem text_at (A : Option Addr) (l : List Int) (n c : Nat) (w : World) (r : List Int × Int × Int) (hn : n = l.length) (hv : txtV l = r) (hr : ReadsInt w .i32 A n l) (hl : n ≤ 35184372088832) :
    Calls Try.prog 19 #[.slice A n c] w (TxtPost w r) := by
  subst hn; subst hv; exact text_any A l c w hr hl

set_option maxRecDepth 100000 in
set_option maxHeartbeats 1000000 in
theorem back_early (A B : Option Addr) (a b : List Int) (c d : Nat) (w : World) (ha : a.length ≤ 9223372036854775807) (hb : b.length ≤ 9223372036854775807)
    (h : 1000 < a.length ∨ 2000 < b.length) :
    Calls Try.prog 8 #[.slice A a.length c, .slice B b.length d] w fun e w' => e = .returned (.bool true) ∧ Below w.heap.size w w' := by
  by_cases h1 : 2000 < b.length
  · go_enter Try.func8, Try.ntmps8
    go_wp2_with (first | (go_at_call 13; ((with_reducible refine (alive_any _).mono ?_); rintro e w1 ⟨rfl, hB1⟩; have HB1 := Lib.hid hB1; clear hB1)))
    go_ret
    exact ⟨rfl, HB1.out⟩
  · have h2 : 1000 < a.length := by omega
    go_enter Try.func8, Try.ntmps8
    go_wp2_with (first | (go_at_call 13; ((with_reducible refine (alive_any _).mono ?_); rintro e w1 ⟨rfl, hB1⟩; have HB1 := Lib.hid hB1; clear hB1)))
    go_ret
    exact ⟨rfl, HB1.out⟩

set_option maxRecDepth 100000 in
set_option maxHeartbeats 1000000 in
theorem back_late (A B : Option Addr) (a b : List Int) (c d : Nat) (w : World) (ha : ReadsInt w .i32 A a.length a) (hb : ReadsInt w .u8 B b.length b) (hbb : Bytes b) (hbc : b.length ≤ d)
    (h1 : a.length ≤ 1000) (h2 : b.length ≤ 2000) :
    Calls Try.prog 8 #[.slice A a.length c, .slice B b.length d] w fun e w' => e = .returned (.bool true) ∧ Below w.heap.size w w' := by
  have HRA := Lib.hid ha
  have HRB := Lib.hid hb
  have HPB := Lib.hid (fun (w1 : World) (h : Below w.heap.size w w1) => points_any B b d w1 (HRB.out.below h) hbb hbc (by omega))
  have HT := Lib.hid (text_any A a c w ha (by omega))
  clear ha hb hbc
  go_enter Try.func8, Try.ntmps8
  go_upto_if 29 with (first | (go_at_call 19; ((with_reducible refine HT.out.mono ?_); rintro e w1 ⟨v1, rfl, hO1, hB1⟩; obtain ⟨A1, c1, rfl, hc1, hr1⟩ := hO1.reads; have HB1 := Lib.hid hB1; have HR1 := Lib.hid hr1; have HC1 := Lib.hid hc1; clear hO1 hB1 hr1 hc1)))
  go_cut [4, 5, 7, 8] (fun s4 s5 s7 s8 wx => s4 = .bool false ∧ Hid (Below w.heap.size w wx))
  case first =>
    rcases txtV_code a with ⟨hz, hpt, hv⟩ | hz
    · rw [hv] at HR1 HC1
      simp only [hv]
      have HP := Lib.hid (points_at A1 (encB a) _ c1 (w1.alloc (.cells #[.int .i64 0, .int .i64 0] 36)) _ rfl (pts_enc a hpt) (HR1.out.below (below_first _)) (encB_bytes a) HC1.out (by have := encB_le a; omega))
      clear hz hpt hv
      generalize encB a = s at *
      go_wp2_with (first
        | (go_at_call 16; ((with_reducible refine HP.out.mono ?_); rintro e w2 ⟨v2, rfl, hO2, hB2⟩; obtain ⟨A2, c2, rfl, hc2, hr2⟩ := hO2.reads; have HB2 := Lib.hid (below_alloc (below_then (below_alloc HB1.out (.cells #[.int .i64 0, .int .i64 0] 36)) (below_alloc HB1.out (.cells #[.int .i64 0, .int .i64 0] 36)).size hB2) (.cells #[.int .i64 0, .int .i64 0] 36)); have HSM := Lib.hid (rsame_any A A2 a a c c2 (w2.alloc (.cells #[.int .i64 0, .int .i64 0] 36)) (HRA.out.below HB2.out) (hr2.below (below_first (.cells #[.int .i64 0, .int .i64 0] 36)))); simp only [decide_true] at HSM; clear hO2 hB2 hr2 hc2))
        | (go_at_call 17; ((with_reducible refine HSM.out.mono ?_); rintro e w3 ⟨rfl, hB3⟩; have HB3 := Lib.hid (below_then HB2.out HB2.out.size hB3); clear hB3)))
      go_meet
      exact ⟨rfl, HB3⟩
    · have HZ := Lib.hid hz
      clear hz
      generalize txtV a = tv at *
      obtain ⟨ts, at_, code⟩ := tv
      obtain rfl : code = 20 := HZ.out
      go_wp2
      go_meet
      exact ⟨rfl, Lib.hid (below_alloc HB1.out _)⟩
  case rest =>
    obtain ⟨rfl, HWc⟩ := hcut
    rcases hvb : vldV b with _ | _
    · have HPb := Lib.hid (HPB.out _ HWc.out)
      rw [ptsV_bad b hvb] at HPb
      clear hvb
      generalize (ptsV b).2.1 = at_ at *
      go_wp2_with (first
        | (go_at_call 16; ((with_reducible refine HPb.out.mono ?_); rintro e w5 ⟨v5, rfl, hO5, hB5⟩; obtain ⟨A5, c5, rfl, hc5, hr5⟩ := hO5.reads; have HX5 := Lib.hid (below_alloc hB5 (.cells #[.int .i64 at_, .int .i64 20] 36)); have HB5 := Lib.hid (below_then HWc.out HWc.out.size HX5.out); have HQ := Lib.hid (text_at A5 [] 0 c5 (w5.alloc (.cells #[.int .i64 at_, .int .i64 20] 36)) ([], 0, 0) rfl rfl (hr5.below (below_first (.cells #[.int .i64 at_, .int .i64 20] 36))) (by simp)); clear hO5 hB5 hr5 hc5))
        | (go_at_call 19; ((with_reducible refine HQ.out.mono ?_); rintro e w6 ⟨v6, rfl, hO6, hB6⟩; obtain ⟨A6, c6, rfl, hc6, hr6⟩ := hO6.reads; have HX6 := Lib.hid (below_alloc hB6 (.cells #[.int .i64 0, .int .i64 0] 36)); have HB6 := Lib.hid (below_then HB5.out HB5.out.size HX6.out); have HR6 := Lib.hid (hr6.below (below_first (.cells #[.int .i64 0, .int .i64 0] 36))); clear hO6 hB6 hr6 hc6))
        | (go_at_call 13; ((with_reducible refine (alive_any _).mono ?_); rintro e w7 ⟨rfl, hB7⟩; have HB7 := Lib.hid (below_then HB6.out HB6.out.size hB7); have HX7 := Lib.hid (below_then HX6.out HX6.out.size hB7); have d1 : w7.cell? ⟨w5.heap.size, 1, none⟩ = some (.int .i64 20) := pw_cell_below HX7.out (by go_simp); have d2 : w7.cell? ⟨w6.heap.size, 1, none⟩ = some (.int .i64 0) := pw_cell_below hB7 (by go_simp); have cv1 := string_of_reads (P := Try.prog) (A := A6) (c := c6) (n := 0) Try.underlying22 Try.underlying5 Try.underlying9 (HR6.out.below hB7); have cv2 := string_of_reads (P := Try.prog) (A := B) (c := d) (n := b.length) Try.underlying22 Try.underlying5 Try.underlying9 (HRB.out.below HB7.out); clear hB7)))
      go_ret
      exact ⟨rfl, HB7.out⟩
    · obtain ⟨ps, hp1, hp2, hp3⟩ := ptsV_valid b hbb hvb
      have HPb := Lib.hid (HPB.out _ HWc.out)
      have hle := ptsV_len b hbb
      rw [hp3] at HPb hle
      have htx : txtV ps = (b, 0, 0) := by
        rw [hp2]; simp [txtV, txt_enc ps hp1]
      have hle2 : ps.length ≤ 2000 := by have h9 : ps.length ≤ b.length := hle; omega
      clear hp1 hp2 hp3 hvb hle
      go_wp2_with (first
        | (go_at_call 16; ((with_reducible refine HPb.out.mono ?_); rintro e w5 ⟨v5, rfl, hO5, hB5⟩; obtain ⟨A5, c5, rfl, hc5, hr5⟩ := hO5.reads; have HX5 := Lib.hid (below_alloc hB5 (.cells #[.int .i64 0, .int .i64 0] 36)); have HB5 := Lib.hid (below_then HWc.out HWc.out.size HX5.out); have HQ := Lib.hid (text_at A5 ps _ c5 (w5.alloc (.cells #[.int .i64 0, .int .i64 0] 36)) _ rfl htx (hr5.below (below_first (.cells #[.int .i64 0, .int .i64 0] 36))) (by omega)); clear hO5 hB5 hr5 hc5))
        | (go_at_call 19; ((with_reducible refine HQ.out.mono ?_); rintro e w6 ⟨v6, rfl, hO6, hB6⟩; obtain ⟨A6, c6, rfl, hc6, hr6⟩ := hO6.reads; have HX6 := Lib.hid (below_alloc hB6 (.cells #[.int .i64 0, .int .i64 0] 36)); have HB6 := Lib.hid (below_then HB5.out HB5.out.size HX6.out); have HR6 := Lib.hid (hr6.below (below_first (.cells #[.int .i64 0, .int .i64 0] 36))); clear hO6 hB6 hr6 hc6))
        | (go_at_call 13; ((with_reducible refine (alive_any _).mono ?_); rintro e w7 ⟨rfl, hB7⟩; have HB7 := Lib.hid (below_then HB6.out HB6.out.size hB7); have HX7 := Lib.hid (below_then HX6.out HX6.out.size hB7); have d1 : w7.cell? ⟨w5.heap.size, 1, none⟩ = some (.int .i64 0) := pw_cell_below HX7.out (by go_simp); have d2 : w7.cell? ⟨w6.heap.size, 1, none⟩ = some (.int .i64 0) := pw_cell_below hB7 (by go_simp); have cv1 := string_of_reads (P := Try.prog) (A := A6) (c := c6) (n := b.length) Try.underlying22 Try.underlying5 Try.underlying9 (HR6.out.below hB7); have cv2 := string_of_reads (P := Try.prog) (A := B) (c := d) (n := b.length) Try.underlying22 Try.underlying5 Try.underlying9 (HRB.out.below HB7.out); clear hB7)))
      go_ret
      exact ⟨rfl, HB7.out⟩

theorem texts_law (A : Option Addr) (a : List Int) (c : Nat) (B : Option Addr) (b : List Int) (d : Nat) (m : Int) (w : World) (ha : ReadsInt w .u8 A a.length a) (wa : ∀ n ∈ a, (Lit.int .u8 n).wf = true) (hac : a.length ≤ c) (_ : a.length * 1 ≤ 140737488351232)
    (hb : ReadsInt w .i32 B b.length b) (_ : ∀ n ∈ b, (Lit.int .i32 n).wf = true) (_ : b.length ≤ d) (_ : b.length * 4 ≤ 140737488351232) (hm : (Lit.int .i64 m).wf = true) :
    Calls Try.prog 7 #[.slice A a.length c, .slice B b.length d, .int .i64 m] w fun e w' => e = .returned (.bool true) ∧ Below w.heap.size w w' := by
  by_cases h : 2000 < a.length ∨ 1000 < b.length
  · exact texts_early A B a b c d m w ha.2.1 hb.2.1 h
  · exact texts_late A B a b c d m w ha (wf_u8 wa) hac hb (wf_int hm) (by omega) (by omega)
theorem back_law (A : Option Addr) (a : List Int) (c : Nat) (B : Option Addr) (b : List Int) (d : Nat) (w : World) (ha : ReadsInt w .i32 A a.length a) (_ : ∀ n ∈ a, (Lit.int .i32 n).wf = true) (_ : a.length ≤ c) (_ : a.length * 4 ≤ 140737488351232)
    (hb : ReadsInt w .u8 B b.length b) (wb : ∀ n ∈ b, (Lit.int .u8 n).wf = true) (hbc : b.length ≤ d) (_ : b.length * 1 ≤ 140737488351232) :
    Calls Try.prog 8 #[.slice A a.length c, .slice B b.length d] w fun e w' => e = .returned (.bool true) ∧ Below w.heap.size w w' := by
  by_cases h : 1000 < a.length ∨ 2000 < b.length
  · exact back_early A B a b c d w ha.2.1 hb.2.1 h
  · exact back_late A B a b c d w ha hb (wf_u8 wb) hbc (by omega) (by omega)
end Go.Proofs.Ytgplfamdeifmjaa
