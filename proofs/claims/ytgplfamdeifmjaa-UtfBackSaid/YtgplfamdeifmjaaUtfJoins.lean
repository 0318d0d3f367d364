/- The walk of the statement UtfJoins. -/
import Derived.Test.YtgplfamdeifmjaaUtfLaws
namespace Go.Proofs.Ytgplfamdeifmjaa
open Go.RowKit Go.Proofs.YtgplfamdeifmjaaW.PrintWords

theorem dec_pos : ∀ (f : Nat) (l : List Int) (n : Nat), (dec f l).2 = some n → n ≤ l.length
  | 0, l, n, h => by simp [dec] at h
  | f + 1, l, n, h => by
    by_cases h0 : l.length = 0
    · rw [dec, if_pos h0] at h; simp at h
    · by_cases he : (nextV l).2.2 = 0
      · rw [dec_step f l h0 he] at h
        simp only [joinD, Option.map_eq_some_iff] at h
        obtain ⟨k, h1, h2⟩ := h
        have h3 := dec_pos f _ k h1
        have h4 := (nextV_len l).1
        rw [List.length_drop] at h3
        omega
      · rw [dec, if_neg h0, if_neg he] at h
        simp at h; omega
theorem ptsV_pos (l : List Int) : 0 ≤ (ptsV l).2.1 ∧ (ptsV l).2.1 ≤ l.length := by
  unfold ptsV
  rcases h : (dec l.length l).2 with _ | n
  · simp
  · have := dec_pos _ _ _ h
    simp; omega
theorem ptsV_bad (l : List Int) (h : vldV l = false) : ptsV l = ([], (ptsV l).2.1, 20) := by
  unfold vldV at h
  unfold ptsV
  rcases h1 : (dec l.length l).2 with _ | n
  · rw [h1] at h; simp at h
  · simp
theorem ptsV_good (l : List Int) (h : vldV l = true) : ptsV l = ((ptsV l).1, 0, 0) := by
  unfold vldV at h
  unfold ptsV
  rcases h1 : (dec l.length l).2 with _ | n
  · simp
  · rw [h1] at h; simp at h
theorem points_at (A : Option Addr) (l : List Int) (n c : Nat) (w : World) (r : List Int × Int × Int) (hn : n = l.length) (hv : ptsV l = r) (hr : ReadsInt w .u8 A n l) (hby : Bytes l) (hc : n ≤ c) (hl : n ≤ 35184372088832) :
    Calls Try.prog 16 #[.slice A n c] w (PtsPost w r) := by
  subst hn; subst hv; exact points_any A l c w hr hby hc hl
theorem ptsV_len (l : List Int) (hby : Bytes l) : (ptsV l).1.length ≤ l.length := by
  rcases h : vldV l with _ | _
  · rw [ptsV_bad l h]; simp
  · obtain ⟨ps, h1, h2, h3⟩ := ptsV_valid l hby h
    rw [h3]
    subst h2
    show ps.length ≤ (encB ps).length
    clear h h3 hby
    induction ps with
    | nil => simp
    | cons p t ih =>
      obtain ⟨hp, ht⟩ := allPt_cons h1
      have := putB_pos p hp
      have := ih ht
      simp [encB]; omega

set_option maxRecDepth 100000 in
set_option maxHeartbeats 1000000 in
theorem joins_early (A B : Option Addr) (a b : List Int) (c d : Nat) (w : World) (ha : ReadsInt w .u8 A a.length a) (hab : Bytes a) (hac : a.length ≤ c) (hb : b.length ≤ 9223372036854775807)
    (h : 1000 < a.length ∨ 1000 < b.length ∨ vldV a = false) :
    Calls Try.prog 6 #[.slice A a.length c, .slice B b.length d] w fun e w' => e = .returned (.bool true) ∧ Below w.heap.size w w' := by
  have hma := ha.2.1
  by_cases h1 : 1000 < a.length
  · go_enter Try.func6, Try.ntmps6
    go_wp2_with (first | (go_at_call 13; ((with_reducible refine (alive_any _).mono ?_); rintro e w1 ⟨rfl, hB1⟩; have HB1 := Lib.hid hB1; clear hB1)))
    go_ret
    exact ⟨rfl, HB1.out⟩
  · by_cases h2 : 1000 < b.length
    · go_enter Try.func6, Try.ntmps6
      go_wp2_with (first | (go_at_call 13; ((with_reducible refine (alive_any _).mono ?_); rintro e w1 ⟨rfl, hB1⟩; have HB1 := Lib.hid hB1; clear hB1)))
      go_ret
      exact ⟨rfl, HB1.out⟩
    · have h3 : vldV a = false := by
        rcases h with h | h | h
        · omega
        · omega
        · exact h
      have HV := Lib.hid (valid_at A a _ c w _ rfl h3 ha hab hac (by omega))
      clear h h3
      go_enter Try.func6, Try.ntmps6
      go_wp2_with (first
        | (go_at_call 15; ((with_reducible refine HV.out.mono ?_); rintro e w2 ⟨rfl, hB2⟩; have HB2 := Lib.hid hB2; clear hB2))
        | (go_at_call 13; ((with_reducible refine (alive_any _).mono ?_); rintro e w3 ⟨rfl, hB3⟩; have HB3 := Lib.hid (below_then HB2.out HB2.out.size hB3); clear hB3)))
      go_ret
      exact ⟨rfl, HB3.out⟩

set_option maxRecDepth 100000 in
set_option maxHeartbeats 1000000 in
theorem joins_bad (A B : Option Addr) (a b : List Int) (c d : Nat) (w : World) (ha : ReadsInt w .u8 A a.length a) (hab : Bytes a) (hac : a.length ≤ c) (hb : ReadsInt w .u8 B b.length b) (hbb : Bytes b) (hbc : b.length ≤ d)
    (h1 : a.length ≤ 1000) (h2 : b.length ≤ 1000) (hva : vldV a = true) (hvb : vldV b = false) :
    Calls Try.prog 6 #[.slice A a.length c, .slice B b.length d] w fun e w' => e = .returned (.bool true) ∧ Below w.heap.size w w' := by
  have HRA := Lib.hid ha
  have HRB := Lib.hid hb
  have HV := Lib.hid (valid_at A a _ c w _ rfl hva ha hab hac (by omega))
  obtain ⟨ab, hE⟩ : ∃ ab, ab = a ++ b := ⟨_, rfl⟩
  have hJ := pts_join a b hab hva
  rw [← hE, if_neg (by rw [hvb]; simp)] at hJ
  have hpos := ptsV_pos b
  have hbad := ptsV_bad b hvb
  have HL : Hid (ab.length = a.length + b.length) := Lib.hid (by rw [hE, List.length_append])
  have HE := Lib.hid hE
  have habb : Bytes ab := by rw [hE]; exact hab.append hbb
  have HPA := Lib.hid (fun (w1 : World) (h : Below w.heap.size w w1) => points_at A a _ c w1 _ rfl (ptsV_good a hva) (HRA.out.below h) hab hac (by omega))
  generalize (ptsV b).2.1 = at_ at *
  have HPB := Lib.hid (fun (w1 : World) (h : Below w.heap.size w w1) => points_at B b _ d w1 _ rfl hbad (HRB.out.below h) hbb hbc (by omega))
  have HPC := Lib.hid (fun (C : Option Addr) (c3 : Nat) (w1 : World) (h : ReadsInt w1 .u8 C ab.length ab) (hc : ab.length ≤ c3) => points_at C ab _ c3 w1 _ rfl hJ h habb hc (by have := HL.out; omega))
  obtain ⟨hp0, hp1⟩ := hpos
  clear ha hb hab hac hbb hbc hva hvb hE hJ hbad habb
  generalize (ptsV a).1 = psa at *
  go_enter Try.func6, Try.ntmps6
  go_wp2_with (first
    | (go_at_call 15; ((with_reducible refine HV.out.mono ?_); rintro e w1 ⟨rfl, hB1⟩; have HB1 := Lib.hid hB1; have HRA1 := Lib.hid (HRA.out.below hB1); have HRB1 := Lib.hid (HRB.out.below hB1); have hz1 : w.heap.size ≤ w1.heap.size := hB1.size; clear hB1))
    | (at_builtin; refine print_append_row (w0 := w) w.heap.size rfl (.tmp 27) (.tmp 28) 22 5 .u8 1 rfl Try.underlying22 infoU8 (by decide) _ [] a _ _ _ rfl rfl (ORow.nil _ _ _ _) HRA1.out HB1.out hz1 (by simp; omega) ?_; intro v2 w2 hO2 hB2 _ _; have HO2 := Lib.hid hO2; have HB2 := Lib.hid hB2; have hz2 : w.heap.size ≤ w2.heap.size := hB2.size; have HRB2 := Lib.hid (HRB.out.below hB2); clear hO2 hB2)
    | (at_builtin; refine print_append_row (w0 := w) w.heap.size rfl (.tmp 30) (.tmp 31) 22 5 .u8 1 rfl Try.underlying22 infoU8 (by decide) _ a b _ _ _ rfl rfl HO2.out HRB2.out HB2.out hz2 (by omega) ?_; intro v3 w3 hO3 hB3 _ _; rw [← HE.out] at hO3; obtain ⟨A3, c3, rfl, hc3, hr3⟩ := ORow.reads hO3; have HR3 := Lib.hid hr3; have HC3 := Lib.hid hc3; have HB3 := Lib.hid hB3; have hz3 : w.heap.size ≤ w3.heap.size := hB3.size; have HP1 := Lib.hid (HPA.out w3 hB3); clear hO3 hB3 hr3 hc3)
    | (go_at_call 16; ((with_reducible refine HP1.out.mono ?_); rintro e w4 ⟨v4, rfl, hO4, hB4⟩; have HB4 := Lib.hid (below_then HB3.out hz3 hB4); have HR4 := Lib.hid ((HR3.out.below hB4).below (below_first (.cells #[.int .i64 0, .int .i64 0] 36))); have HO4 := Lib.hid (ORow.lower hO4 hz3); have hz4 : w.heap.size ≤ w4.heap.size := HB4.out.size; have HP2 := Lib.hid (HPB.out (w4.alloc (.cells #[.int .i64 0, .int .i64 0] 36)) (below_alloc HB4.out _)); clear hO4 hB4))
    | (go_at_call 16; ((with_reducible refine HP2.out.mono ?_); rintro e w5 ⟨v5, rfl, hO5, hB5⟩; have HB5 := Lib.hid (below_then (below_alloc HB4.out _) (below_alloc HB4.out _).size hB5); have HR5 := Lib.hid ((HR4.out.below hB5).below (below_first (.cells #[.int .i64 at_, .int .i64 20] 36))); have HO5 := Lib.hid (ORow.lower hO5 (below_alloc HB4.out _).size); have HO4b := Lib.hid ((ORow.alloc HO4.out _).below hB5); have hz5 : w4.heap.size < w5.heap.size := (by have := hB5.size; simp at this; omega); have c50 : w5.cell? ⟨w4.heap.size, 1, none⟩ = some (.int .i64 0) := pw_cell_below hB5 (by go_simp); have HP3 := Lib.hid (HPC.out A3 c3 (w5.alloc (.cells #[.int .i64 at_, .int .i64 20] 36)) HR5.out HC3.out); clear hO5 hB5))
    | (go_at_call 16; ((with_reducible refine HP3.out.mono ?_); rintro e w6 ⟨v6, rfl, hO6, hB6⟩; have HB6 := Lib.hid (below_then (below_alloc HB5.out _) (below_alloc HB5.out _).size hB6); have HO6 := Lib.hid (ORow.lower hO6 (below_alloc HB5.out _).size); have HO4c := Lib.hid ((ORow.alloc HO4b.out _).below hB6); have HO5b := Lib.hid ((ORow.alloc HO5.out _).below hB6); have hz6 : w5.heap.size < w6.heap.size := (by have := hB6.size; simp at this; omega); have hz7 : w4.heap.size < w6.heap.size := (by omega); have c60 : w6.cell? ⟨w4.heap.size, 1, none⟩ = some (.int .i64 0) := pw_cell_below hB6 (by go_simp); have c61 : w6.cell? ⟨w5.heap.size, 0, none⟩ = some (.int .i64 at_) := pw_cell_below hB6 (by go_simp); have c62 : w6.cell? ⟨w5.heap.size, 1, none⟩ = some (.int .i64 20) := pw_cell_below hB6 (by go_simp); clear hO6 hB6))
    | (go_at_call 13; ((with_reducible refine (alive_any _).mono ?_); rintro e w7 ⟨rfl, hB7⟩; have HB7 := Lib.hid (below_then (below_alloc HB6.out _) (below_alloc HB6.out _).size hB7); have c70 : w7.cell? ⟨w5.heap.size, 0, none⟩ = some (.int .i64 at_) := pw_cell_below hB7 (by go_simp); have c71 : w7.cell? ⟨w5.heap.size, 1, none⟩ = some (.int .i64 20) := pw_cell_below hB7 (by go_simp); have c72 : w7.cell? ⟨w6.heap.size, 0, none⟩ = some (.int .i64 (at_ + a.length)) := pw_cell_below hB7 (by go_simp); have c73 : w7.cell? ⟨w6.heap.size, 1, none⟩ = some (.int .i64 20) := pw_cell_below hB7 (by go_simp); clear hB7)))
  go_ret
  exact ⟨rfl, HB7.out⟩

set_option maxRecDepth 100000 in
set_option maxHeartbeats 1000000 in
theorem joins_good (A B : Option Addr) (a b : List Int) (c d : Nat) (w : World) (ha : ReadsInt w .u8 A a.length a) (hab : Bytes a) (hac : a.length ≤ c) (hb : ReadsInt w .u8 B b.length b) (hbb : Bytes b) (hbc : b.length ≤ d)
    (h1 : a.length ≤ 1000) (h2 : b.length ≤ 1000) (hva : vldV a = true) (hvb : vldV b = true) :
    Calls Try.prog 6 #[.slice A a.length c, .slice B b.length d] w fun e w' => e = .returned (.bool true) ∧ Below w.heap.size w w' := by
  have HRA := Lib.hid ha
  have HRB := Lib.hid hb
  have HV := Lib.hid (valid_at A a _ c w _ rfl hva ha hab hac (by omega))
  obtain ⟨ab, hE⟩ : ∃ ab, ab = a ++ b := ⟨_, rfl⟩
  have hJ := pts_join a b hab hva
  rw [← hE, if_pos hvb] at hJ
  have hbad := ptsV_good b hvb
  have HLA := Lib.hid (ptsV_len a hab)
  have HLB := Lib.hid (ptsV_len b hbb)
  have HL : Hid (ab.length = a.length + b.length) := Lib.hid (by rw [hE, List.length_append])
  have HE := Lib.hid hE
  have habb : Bytes ab := by rw [hE]; exact hab.append hbb
  have HPA := Lib.hid (fun (w1 : World) (h : Below w.heap.size w w1) => points_at A a _ c w1 _ rfl (ptsV_good a hva) (HRA.out.below h) hab hac (by omega))
  have HPB := Lib.hid (fun (w1 : World) (h : Below w.heap.size w w1) => points_at B b _ d w1 _ rfl hbad (HRB.out.below h) hbb hbc (by omega))
  have HPC := Lib.hid (fun (C : Option Addr) (c3 : Nat) (w1 : World) (h : ReadsInt w1 .u8 C ab.length ab) (hc : ab.length ≤ c3) => points_at C ab _ c3 w1 _ rfl hJ h habb hc (by have := HL.out; omega))
  clear ha hb hab hac hbb hbc hva hvb hE hJ hbad habb
  obtain ⟨zs, hzs⟩ : ∃ zs, zs = (ptsV a).1 ++ (ptsV b).1 := ⟨_, rfl⟩
  rw [← hzs] at HPC
  have HZ := Lib.hid hzs
  clear hzs
  generalize (ptsV a).1 = psa at *
  generalize (ptsV b).1 = psb at *
  go_enter Try.func6, Try.ntmps6
  go_wp2_with (first
    | (go_at_call 15; ((with_reducible refine HV.out.mono ?_); rintro e w1 ⟨rfl, hB1⟩; have HB1 := Lib.hid hB1; have HRA1 := Lib.hid (HRA.out.below hB1); have HRB1 := Lib.hid (HRB.out.below hB1); have hz1 : w.heap.size ≤ w1.heap.size := hB1.size; clear hB1))
    | (at_builtin; refine print_append_row (w0 := w) w.heap.size rfl (.tmp 27) (.tmp 28) 22 5 .u8 1 rfl Try.underlying22 infoU8 (by decide) _ [] a _ _ _ rfl rfl (ORow.nil _ _ _ _) HRA1.out HB1.out hz1 (by simp; omega) ?_; intro v2 w2 hO2 hB2 _ _; have HO2 := Lib.hid hO2; have HB2 := Lib.hid hB2; have hz2 : w.heap.size ≤ w2.heap.size := hB2.size; have HRB2 := Lib.hid (HRB.out.below hB2); clear hO2 hB2)
    | (at_builtin; refine print_append_row (w0 := w) w.heap.size rfl (.tmp 30) (.tmp 31) 22 5 .u8 1 rfl Try.underlying22 infoU8 (by decide) _ a b _ _ _ rfl rfl HO2.out HRB2.out HB2.out hz2 (by omega) ?_; intro v3 w3 hO3 hB3 _ _; rw [← HE.out] at hO3; obtain ⟨A3, c3, rfl, hc3, hr3⟩ := ORow.reads hO3; have HR3 := Lib.hid hr3; have HC3 := Lib.hid hc3; have HB3 := Lib.hid hB3; have hz3 : w.heap.size ≤ w3.heap.size := hB3.size; have HP1 := Lib.hid (HPA.out w3 hB3); clear hO3 hB3 hr3 hc3)
    | (go_at_call 16; ((with_reducible refine HP1.out.mono ?_); rintro e w4 ⟨v4, rfl, hO4, hB4⟩; obtain ⟨A4, c4, rfl, hc4, hr4⟩ := hO4.reads; have HB4 := Lib.hid (below_then HB3.out hz3 hB4); have HR4 := Lib.hid ((HR3.out.below hB4).below (below_first (.cells #[.int .i64 0, .int .i64 0] 36))); have HX4 := Lib.hid (hr4.below (below_first (.cells #[.int .i64 0, .int .i64 0] 36))); have hz4 : w.heap.size ≤ w4.heap.size := HB4.out.size; have HP2 := Lib.hid (HPB.out (w4.alloc (.cells #[.int .i64 0, .int .i64 0] 36)) (below_alloc HB4.out _)); clear hO4 hB4 hr4 hc4))
    | (go_at_call 16; ((with_reducible refine HP2.out.mono ?_); rintro e w5 ⟨v5, rfl, hO5, hB5⟩; obtain ⟨A5, c5, rfl, hc5, hr5⟩ := hO5.reads; have HB5 := Lib.hid (below_then (below_alloc HB4.out _) (below_alloc HB4.out _).size hB5); have HR5 := Lib.hid ((HR4.out.below hB5).below (below_first (.cells #[.int .i64 0, .int .i64 0] 36))); have HX5 := Lib.hid ((HX4.out.below hB5).below (below_first (.cells #[.int .i64 0, .int .i64 0] 36))); have HY5 := Lib.hid (hr5.below (below_first (.cells #[.int .i64 0, .int .i64 0] 36))); have hz5 : w4.heap.size < w5.heap.size := (by have := hB5.size; simp at this; omega); have c50 : w5.cell? ⟨w4.heap.size, 1, none⟩ = some (.int .i64 0) := pw_cell_below hB5 (by go_simp); have HP3 := Lib.hid (HPC.out A3 c3 (w5.alloc (.cells #[.int .i64 0, .int .i64 0] 36)) HR5.out HC3.out); clear hO5 hB5 hr5 hc5))
    | (go_at_call 16; ((with_reducible refine HP3.out.mono ?_); rintro e w6 ⟨v6, rfl, hO6, hB6⟩; obtain ⟨A6, c6, rfl, hc6, hr6⟩ := hO6.reads; have HB6 := Lib.hid (below_then (below_alloc HB5.out _) (below_alloc HB5.out _).size hB6); have HX6 := Lib.hid ((HX5.out.below hB6).below (below_first (.cells #[.int .i64 0, .int .i64 0] 36))); have HY6 := Lib.hid ((HY5.out.below hB6).below (below_first (.cells #[.int .i64 0, .int .i64 0] 36))); have HZ6 := Lib.hid (hr6.below (below_first (.cells #[.int .i64 0, .int .i64 0] 36))); have hz6 : w5.heap.size < w6.heap.size := (by have := hB6.size; simp at this; omega); have hz7 : w4.heap.size < w6.heap.size := (by omega); have c60 : w6.cell? ⟨w4.heap.size, 1, none⟩ = some (.int .i64 0) := pw_cell_below hB6 (by go_simp); have c62 : w6.cell? ⟨w5.heap.size, 1, none⟩ = some (.int .i64 0) := pw_cell_below hB6 (by go_simp); have HB6b := Lib.hid (below_alloc HB6.out (.cells #[.int .i64 0, .int .i64 0] 36)); have hz8 : w.heap.size ≤ (w6.alloc (.cells #[.int .i64 0, .int .i64 0] 36)).heap.size := HB6b.out.size; clear hO6 hB6 hr6 hc6))
    | (at_builtin; refine print_append_row (w0 := w6.alloc (.cells #[.int .i64 0, .int .i64 0] 36)) (w6.alloc (.cells #[.int .i64 0, .int .i64 0] 36)).heap.size rfl (.tmp 69) (.tmp 70) 34 21 .i32 4 rfl Try.underlying34 infoI32 (by decide) _ [] psa _ _ _ rfl rfl (ORow.nil _ _ _ _) HX6.out (Below.refl _ _) (Nat.le_refl _) (by have := HLA.out; simp; omega) ?_; intro v8 w8 hO8 hB8 _ _; have HO8 := Lib.hid hO8; have HB8 := Lib.hid hB8; have HY8 := Lib.hid (HY6.out.below hB8); have hz9 : (w6.alloc (.cells #[.int .i64 0, .int .i64 0] 36)).heap.size ≤ w8.heap.size := hB8.size; clear hO8 hB8)
    | (at_builtin; refine print_append_row (w0 := w6.alloc (.cells #[.int .i64 0, .int .i64 0] 36)) (w6.alloc (.cells #[.int .i64 0, .int .i64 0] 36)).heap.size rfl (.tmp 72) (.tmp 73) 34 21 .i32 4 rfl Try.underlying34 infoI32 (by decide) _ psa psb _ _ _ rfl rfl HO8.out HY8.out HB8.out hz9 (by have := HLA.out; have := HLB.out; omega) ?_; intro v9 w9 hO9 hB9 _ _; rw [← HZ.out] at hO9; obtain ⟨A9, c9, rfl, hc9, hr9⟩ := ORow.reads hO9; have HR9 := Lib.hid hr9; have HZ9 := Lib.hid (HZ6.out.below hB9); have HB9 := Lib.hid (below_then HB6b.out hz8 hB9); have c90 : w9.cell? ⟨w4.heap.size, 1, none⟩ = some (.int .i64 0) := pw_cell_below hB9 (by go_simp); have c91 : w9.cell? ⟨w6.heap.size, 1, none⟩ = some (.int .i64 0) := pw_cell_below hB9 (by go_simp); clear hO9 hB9 hr9)
    | (go_at_call 13; ((with_reducible refine (alive_any _).mono ?_); rintro e wa ⟨rfl, hBa⟩; have HBa := Lib.hid (below_then HB9.out HB9.out.size hBa); have ca0 : wa.cell? ⟨w4.heap.size, 1, none⟩ = some (.int .i64 0) := pw_cell_below hBa c90; have ca1 : wa.cell? ⟨w6.heap.size, 1, none⟩ = some (.int .i64 0) := pw_cell_below hBa c91; have HSM := Lib.hid (rsame_any A9 A6 zs zs c9 c6 wa (HR9.out.below hBa) (HZ9.out.below hBa)); simp only [decide_true] at HSM; clear hBa))
    | (go_at_call 17; ((with_reducible refine HSM.out.mono ?_); rintro e wb ⟨rfl, hBb⟩; have HBb := Lib.hid (below_then HBa.out HBa.out.size hBb); clear hBb)))
  go_ret
  exact ⟨rfl, HBb.out⟩

theorem joins_law (A : Option Addr) (a : List Int) (c : Nat) (B : Option Addr) (b : List Int) (d : Nat) (w : World) (ha : ReadsInt w .u8 A a.length a) (wa : ∀ n ∈ a, (Lit.int .u8 n).wf = true) (hac : a.length ≤ c) (_ : a.length * 1 ≤ 140737488351232)
    (hb : ReadsInt w .u8 B b.length b) (wb : ∀ n ∈ b, (Lit.int .u8 n).wf = true) (hbc : b.length ≤ d) (_ : b.length * 1 ≤ 140737488351232) :
    Calls Try.prog 6 #[.slice A a.length c, .slice B b.length d] w fun e w' => e = .returned (.bool true) ∧ Below w.heap.size w w' := by
  by_cases h1 : 1000 < a.length
  · exact joins_early A B a b c d w ha (wf_u8 wa) hac hb.2.1 (.inl h1)
  · by_cases h2 : 1000 < b.length
    · exact joins_early A B a b c d w ha (wf_u8 wa) hac hb.2.1 (.inr (.inl h2))
    · rcases hva : vldV a with _ | _
      · exact joins_early A B a b c d w ha (wf_u8 wa) hac hb.2.1 (.inr (.inr hva))
      · rcases hvb : vldV b with _ | _
        · exact joins_bad A B a b c d w ha (wf_u8 wa) hac hb (wf_u8 wb) hbc (by omega) (by omega) hva hvb
        · exact joins_good A B a b c d w ha (wf_u8 wa) hac hb (wf_u8 wb) hbc (by omega) (by omega) hva hvb
end Go.Proofs.Ytgplfamdeifmjaa
