/- The law KindWrites, walked. -/
import Derived.Test.YtdnehnjcbdkgcaaKE
import Derived.Test.YtdnehnjcbdkgcaaWLast
namespace Go.Proofs.Ytdnehnjcbdkgcaa
set_option linter.unusedVariables false
set_option linter.unusedSimpArgs false
open Go.RowKit Go.Shelf Go.Proofs.YtdnehnjcbdkgcaaW.PrintWords Go.Proofs.YtdnehnjcbdkgcaaW.PrintLast PKindReads

theorem pwrite_any {t s : List Int} {ps : List Pm} {A : Option Addr} {c : Nat} {w : World} (hk : KOk t s ps) (hP : PRow w A ps) (hc : ps.length ≤ c) :
    Calls Try.prog 13 #[.agg #[.string (St t), .string (St s), .slice A ps.length c]] w fun e w' => e = .returned (.tuple #[.string (St (writeR t s ps).1), .int .i64 (writeR t s ps).2]) ∧ Below w.heap.size w w' := by
  unfold writeR
  rcases hr : rightB t s ps with _ | _
  · rw [if_neg (by decide)]
    exact write_no t s ps A c w hk hP hc hr
  · rw [if_pos rfl]
    exact write_yes t s ps A c w hk hP hc hr
set_option maxRecDepth 100000 in
set_option maxHeartbeats 2000000 in
theorem writes_great (t s : List Int) (ps : List Pm) (A : Option Addr) (c : Nat) (a b : ByteArray) (w : World) (hk : GOk t s ps) (hP : PRow w A ps) (hc : ps.length ≤ c) (hg : greatB t s ps = true) :
    Calls Try.prog 4 #[.agg #[.string (St t), .string (St s), .slice A ps.length c], .string a, .string b] w fun e w' => e = .returned (.bool true) ∧ Below w.heap.size w w' := by
  have HG := Lib.hid (fun (W : World) (hP : PRow W A ps) => great_any t s ps A c W hk hP hc)
  rw [hg] at HG
  have HP := Lib.hid hP
  clear hk hP hg
  generalize St t = st at *
  generalize St s = ss at *
  go_enter Try.func4, Try.ntmps4
  go_wp2_with (first
    | (go_at_call 12; ((with_reducible refine (HG.out _ (HP.out.alloc_ _)).mono ?_); rintro e w1 ⟨rfl, hB⟩; have HB1 := Lib.hid (below_then ((Below.refl w.heap.size w).alloc (Nat.le_refl _) _) ((Below.refl w.heap.size w).alloc (Nat.le_refl _) _).size hB); clear hB))
    | (go_at_call 8; ((with_reducible refine (alive_any _).mono ?_); rintro e w2 ⟨rfl, hB⟩; have HB2 := Lib.hid (below_then HB1.out HB1.out.size hB); clear hB)))
  go_ret
  exact ⟨rfl, HB2.out⟩
set_option maxRecDepth 100000 in
set_option maxHeartbeats 2000000 in
theorem writes_long (t s : List Int) (ps : List Pm) (A : Option Addr) (c : Nat) (a b : ByteArray) (w : World) (hk : GOk t s ps) (hP : PRow w A ps) (hc : ps.length ≤ c) (hg : greatB t s ps = false) (hab : 300 < a.size ∨ (a.size ≤ 300 ∧ 300 < b.size)) :
    Calls Try.prog 4 #[.agg #[.string (St t), .string (St s), .slice A ps.length c], .string a, .string b] w fun e w' => e = .returned (.bool true) ∧ Below w.heap.size w w' := by
  have HG := Lib.hid (fun (W : World) (hP : PRow W A ps) => great_any t s ps A c W hk hP hc)
  rw [hg] at HG
  have HP := Lib.hid hP
  clear hk hP hg
  generalize St t = st at *
  generalize St s = ss at *
  rcases hab with h1 | ⟨h1, h2⟩
  all_goals
    go_enter Try.func4, Try.ntmps4
    go_wp2_with (first
      | (go_at_call 12; ((with_reducible refine (HG.out _ (HP.out.alloc_ _)).mono ?_); rintro e w1 ⟨rfl, hB⟩; have HB1 := Lib.hid (below_then ((Below.refl w.heap.size w).alloc (Nat.le_refl _) _) ((Below.refl w.heap.size w).alloc (Nat.le_refl _) _).size hB); clear hB))
      | (go_at_call 8; ((with_reducible refine (alive_any _).mono ?_); rintro e w2 ⟨rfl, hB⟩; have HB2 := Lib.hid (below_then HB1.out HB1.out.size hB); clear hB)))
    go_ret
    exact ⟨rfl, HB2.out⟩
set_option maxRecDepth 100000 in
set_option maxHeartbeats 4000000 in
theorem writes_all (t s : List Int) (ps : List Pm) (A : Option Addr) (c : Nat) (an bn : List Int) (w : World) (han : Bytes an) (hbn : Bytes bn) (hk : GOk t s ps) (hP : PRow w A ps) (hc : ps.length ≤ c) (hg : greatB t s ps = false) (ha : an.length ≤ 300) (hb : bn.length ≤ 300) :
    Calls Try.prog 4 #[.agg #[.string (St t), .string (St s), .slice A ps.length c], .string (St an), .string (St bn)] w fun e w' => e = .returned (.bool true) ∧ Below w.heap.size w w' := by
  have hk2 := hk.kok hg
  have HG := Lib.hid (fun (W : World) (hP : PRow W A ps) => great_any t s ps A c W hk hP hc)
  rw [hg] at HG
  have HW := Lib.hid (fun (W : World) (hP : PRow W A ps) => pwrite_any (w := W) hk2 hP hc)
  have HRW := Lib.hid (fun (W : World) (hP : PRow W A ps) => rwrite_any (w := W) hk2 hP hc)
  have HT := Lib.hid (fun (W : World) (hP : PRow W A ps) => get_any t s an ps A c W hk2.psb han hk2.n hP hc)
  have HRT := Lib.hid (fun (W : World) (hP : PRow W A ps) => rget_any (t := t) (s := s) (w := W) an hk2.psb han hk2.n hP hc)
  have HI := Lib.hid (fun (W : World) (hP : PRow W A ps) => right_any t s ps A c W hk2 hP hc)
  have HRI := Lib.hid (fun (W : World) (hP : PRow W A ps) => rright_any (w := W) hk2 hP hc)
  have htl := hk2.tl
  have hsl := hk2.sl
  have HIS := Lib.hid (fun (W : World) (hP : PRow W A ps) => is_any t s bn ps A c W hk2.tb hk2.sb hbn (by omega) hP hc)
  have hD : ((St t ++ ⟨#[47]⟩ ++ St s).toList == (St bn).toList) = decide (t ++ [47] ++ s = bn) := by
    rw [e47, St_append, St_append]
    exact St_beq (bytes_app (bytes_app hk2.tb (one_bytes (by omega))) hk2.sb) hbn
  have hz1 := St_size t
  have hz2 := St_size s
  have hz3 := St_size an
  have hz4 := St_size bn
  have HP := Lib.hid hP
  clear hk hP hg hk2
  generalize decide (t ++ [47] ++ s = bn) = D at *
  generalize rightB t s ps = RB at *
  generalize (writeR t s ps).2 = code at *
  generalize St (writeR t s ps).1 = x at *
  generalize St (getR ps an).1 = gv at *
  generalize (getR ps an).2 = gb at *
  generalize St t = st at *
  generalize St s = ss at *
  generalize St an = sa at *
  generalize St bn = sb at *
  have h1 : sa.size ≤ 300 := by omega
  have h2 : sb.size ≤ 300 := by omega
  have f1 : (9223372036854775807 < st.size + 1) = False := eq_false (by omega)
  have f2 : (9223372036854775807 < st.size + 1 + ss.size) = False := eq_false (by omega)
  clear hz1 hz2 hz3 hz4 htl hsl ha hb
  go_enter Try.func4, Try.ntmps4
  go_wp2_with (first
    | (go_at_call 12; ((with_reducible refine (HG.out _ (HP.out.alloc_ _)).mono ?_); rintro e w1 ⟨rfl, hB⟩; have HB1 := Lib.hid (below_then ((Below.refl w.heap.size w).alloc (Nat.le_refl _) _) ((Below.refl w.heap.size w).alloc (Nat.le_refl _) _).size hB); have HF1 := Lib.hid (blk_below (blk_new w _) hB); have HP1 := Lib.hid ((HP.out.alloc_ _).below hB); have k0 : w1.cell? ⟨w.heap.size, 0, none⟩ = some (.string st) := (blk_cell HF1.out 0).trans rfl; have k1 : w1.cell? ⟨w.heap.size, 1, none⟩ = some (.string ss) := (blk_cell HF1.out 1).trans rfl; have k2 : w1.cell? ⟨w.heap.size, 2, none⟩ = some (.slice A ps.length c) := (blk_cell HF1.out 2).trans rfl; clear hB))
    | (go_at_call 13; ((with_reducible refine (HW.out _ HP1.out).mono ?_); rintro e w2 ⟨rfl, hB⟩; have HB2 := Lib.hid (below_then HB1.out HB1.out.size hB); have HF2 := Lib.hid (blk_below HF1.out hB); have HP2 := Lib.hid (HP1.out.below hB); clear k0 k1 k2; have k0 : w2.cell? ⟨w.heap.size, 0, none⟩ = some (.string st) := (blk_cell HF2.out 0).trans rfl; have k1 : w2.cell? ⟨w.heap.size, 1, none⟩ = some (.string ss) := (blk_cell HF2.out 1).trans rfl; have k2 : w2.cell? ⟨w.heap.size, 2, none⟩ = some (.slice A ps.length c) := (blk_cell HF2.out 2).trans rfl; clear hB))
    | (go_at_call 14; ((with_reducible refine (HRW.out _ HP2.out).mono ?_); rintro e w3 ⟨rfl, hB⟩; have HB3 := Lib.hid (below_then HB2.out HB2.out.size hB); have HF3 := Lib.hid (blk_below HF2.out hB); have HP3 := Lib.hid (HP2.out.below hB); clear k0 k1 k2; have k0 : w3.cell? ⟨w.heap.size, 0, none⟩ = some (.string st) := (blk_cell HF3.out 0).trans rfl; have k1 : w3.cell? ⟨w.heap.size, 1, none⟩ = some (.string ss) := (blk_cell HF3.out 1).trans rfl; have k2 : w3.cell? ⟨w.heap.size, 2, none⟩ = some (.slice A ps.length c) := (blk_cell HF3.out 2).trans rfl; clear hB))
    | (go_at_call 15; ((with_reducible refine (HT.out _ HP3.out).mono ?_); rintro e w4 ⟨rfl, hB⟩; have HB4 := Lib.hid (below_then HB3.out HB3.out.size hB); have HF4 := Lib.hid (blk_below HF3.out hB); have HP4 := Lib.hid (HP3.out.below hB); clear k0 k1 k2; have k0 : w4.cell? ⟨w.heap.size, 0, none⟩ = some (.string st) := (blk_cell HF4.out 0).trans rfl; have k1 : w4.cell? ⟨w.heap.size, 1, none⟩ = some (.string ss) := (blk_cell HF4.out 1).trans rfl; have k2 : w4.cell? ⟨w.heap.size, 2, none⟩ = some (.slice A ps.length c) := (blk_cell HF4.out 2).trans rfl; clear hB))
    | (go_at_call 16; ((with_reducible refine (HRT.out _ HP4.out).mono ?_); rintro e w5 ⟨rfl, hB⟩; have HB5 := Lib.hid (below_then HB4.out HB4.out.size hB); have HF5 := Lib.hid (blk_below HF4.out hB); have HP5 := Lib.hid (HP4.out.below hB); clear k0 k1 k2; have k0 : w5.cell? ⟨w.heap.size, 0, none⟩ = some (.string st) := (blk_cell HF5.out 0).trans rfl; have k1 : w5.cell? ⟨w.heap.size, 1, none⟩ = some (.string ss) := (blk_cell HF5.out 1).trans rfl; have k2 : w5.cell? ⟨w.heap.size, 2, none⟩ = some (.slice A ps.length c) := (blk_cell HF5.out 2).trans rfl; clear hB)))
  -- W7
  refine start_ (n := 43) (S := fun w' => w'.cell? ⟨w.heap.size, 0, none⟩ = some (.string st) ∧ w'.cell? ⟨w.heap.size, 1, none⟩ = some (.string ss) ∧ w'.cell? ⟨w.heap.size, 2, none⟩ = some (.slice A ps.length c)) (ds := []) #[false, false, false, false, false, false, false, false, false, false, false, false, false, false, false, false, false, false, false, false, false, false, false, false, false, false, false, false, false, false, false, false, false, false, false, false, false, false, false, false, false, false, false] (by kernel_rfl) rfl rfl ⟨k0, k1, k2⟩ (fun hHeld => ?_)
  refine one_ (i := 0) (N := some 50) #[true, false, false, false, false, false, false, false, false, false, false, false, false, false, false, false, false, false, false, false, false, false, false, false, false, false, false, false, false, false, false, false, false, false, false, false, false, false, false, false, false, false, false] rfl rfl (by kernel_rfl) (by decide) (fun K hK => ?_)
  refine goes_ Try.func8 (by kernel_rfl) rfl #[] (by rfl) rfl rfl (by simp only [List.map_toArray, List.map_cons, List.map_nil] <;> rfl) ?_
  with_reducible refine (alive_any _).mono ?_
  rintro e w6 ⟨rfl, hB⟩
  refine ⟨_, rfl, ?_⟩
  have HX6 := Lib.hid (below_step (b_drew (Below.refl _ _)) hB)
  have HF6 := Lib.hid (blk_below HF5.out HX6.out)
  have HP6 := Lib.hid (HP5.out.below HX6.out)
  have HB6 := Lib.hid (below_then HB5.out HB5.out.size HX6.out)
  have c60 : w6.cell? ⟨w.heap.size, 0, none⟩ = some (.string st) := (blk_cell HF6.out 0).trans rfl
  have c61 : w6.cell? ⟨w.heap.size, 1, none⟩ = some (.string ss) := (blk_cell HF6.out 1).trans rfl
  have c62 : w6.cell? ⟨w.heap.size, 2, none⟩ = some (.slice A ps.length c) := (blk_cell HF6.out 2).trans rfl
  clear hB
  refine hK.out _ _ ⟨c60, c61, c62⟩ (fun hHeld => ?_)
  clear hK K
  refine norm_ (a' := ?_) ?_ ?_
  rotate_left
  · show Act.put _ (some 50) _ = _
    simp only [Act.put, List.setIfInBounds_toArray, List.set_cons_zero, List.set_cons_succ, i64_w, i32_w]
    rfl
  refine pure_ (i := 1) (N := some 51) (v := ?_) (a' := ?_) #[true, true, false, false, false, false, false, false, false, false, false, false, false, false, false, false, false, false, false, false, false, false, false, false, false, false, false, false, false, false, false, false, false, false, false, false, false, false, false, false, false, false, false] rfl rfl (by kernel_rfl) (fun _ _ _ h => h) (Or.inl ⟨by rfl, ?_⟩) ?_ ?_
  rotate_left
  · intro w'
    go_simp
    with_reducible rfl
  rotate_left
  · simp only [Act.put, List.setIfInBounds_toArray, List.set_cons_zero, List.set_cons_succ, i64_w, i32_w]
    rfl
  refine take_ (i := 2) (N := some 52) (v := ?_) (a' := ?_) #[true, true, true, false, false, false, false, false, false, false, false, false, false, false, false, false, false, false, false, false, false, false, false, false, false, false, false, false, false, false, false, false, false, false, false, false, false, false, false, false, false, false, false] rfl rfl (by kernel_rfl) (fun _ _ _ h => h) (Or.inl ⟨by rfl, ?_⟩) hHeld ?_ ?_
  rotate_left
  · rintro w' ⟨s0, s1, s2⟩
    go_simp
    with_reducible rfl
  rotate_left
  · simp only [Act.put, List.setIfInBounds_toArray, List.set_cons_zero, List.set_cons_succ, i64_w, i32_w]
    rfl
  refine take_ (i := 4) (N := some 54) (v := ?_) (a' := ?_) #[true, true, true, false, true, false, false, false, false, false, false, false, false, false, false, false, false, false, false, false, false, false, false, false, false, false, false, false, false, false, false, false, false, false, false, false, false, false, false, false, false, false, false] rfl rfl (by kernel_rfl) (fun _ _ _ h => h) (Or.inl ⟨by rfl, ?_⟩) hHeld ?_ ?_
  rotate_left
  · rintro w' ⟨s0, s1, s2⟩
    go_simp
    with_reducible rfl
  rotate_left
  · simp only [Act.put, List.setIfInBounds_toArray, List.set_cons_zero, List.set_cons_succ, i64_w, i32_w]
    rfl
  refine one_ (i := 3) (N := some 53) #[true, true, true, true, true, false, false, false, false, false, false, false, false, false, false, false, false, false, false, false, false, false, false, false, false, false, false, false, false, false, false, false, false, false, false, false, false, false, false, false, false, false, false] rfl rfl (by kernel_rfl) (by decide) (fun K hK => ?_)
  refine goes_ Try.func17 (by kernel_rfl) rfl #[.agg #[.string st, .string ss, .slice A ps.length c]] (by rfl) rfl rfl (by simp only [List.map_toArray, List.map_cons, List.map_nil] <;> rfl) ?_
  with_reducible refine (HI.out _ HP6.out).mono ?_
  rintro e w7 ⟨rfl, hB⟩
  refine ⟨_, rfl, ?_⟩
  have HX7 := Lib.hid hB
  have HF7 := Lib.hid (blk_below HF6.out HX7.out)
  have HP7 := Lib.hid (HP6.out.below HX7.out)
  have HB7 := Lib.hid (below_then HB6.out HB6.out.size HX7.out)
  have c70 : w7.cell? ⟨w.heap.size, 0, none⟩ = some (.string st) := (blk_cell HF7.out 0).trans rfl
  have c71 : w7.cell? ⟨w.heap.size, 1, none⟩ = some (.string ss) := (blk_cell HF7.out 1).trans rfl
  have c72 : w7.cell? ⟨w.heap.size, 2, none⟩ = some (.slice A ps.length c) := (blk_cell HF7.out 2).trans rfl
  clear hB
  refine hK.out _ _ ⟨c70, c71, c72⟩ (fun hHeld => ?_)
  clear hK K
  refine norm_ (a' := ?_) ?_ ?_
  rotate_left
  · show Act.put _ (some 53) _ = _
    simp only [Act.put, List.setIfInBounds_toArray, List.set_cons_zero, List.set_cons_succ, i64_w, i32_w]
    rfl
  refine one_ (i := 5) (N := some 55) #[true, true, true, true, true, true, false, false, false, false, false, false, false, false, false, false, false, false, false, false, false, false, false, false, false, false, false, false, false, false, false, false, false, false, false, false, false, false, false, false, false, false, false] rfl rfl (by kernel_rfl) (by decide) (fun K hK => ?_)
  refine goes_ Try.func18 (by kernel_rfl) rfl #[.agg #[.string st, .string ss, .slice A ps.length c]] (by rfl) rfl rfl (by simp only [List.map_toArray, List.map_cons, List.map_nil] <;> rfl) ?_
  with_reducible refine (HRI.out _ HP7.out).mono ?_
  rintro e w8 ⟨rfl, hB⟩
  refine ⟨_, rfl, ?_⟩
  have HX8 := Lib.hid hB
  have HF8 := Lib.hid (blk_below HF7.out HX8.out)
  have HP8 := Lib.hid (HP7.out.below HX8.out)
  have HB8 := Lib.hid (below_then HB7.out HB7.out.size HX8.out)
  have c80 : w8.cell? ⟨w.heap.size, 0, none⟩ = some (.string st) := (blk_cell HF8.out 0).trans rfl
  have c81 : w8.cell? ⟨w.heap.size, 1, none⟩ = some (.string ss) := (blk_cell HF8.out 1).trans rfl
  have c82 : w8.cell? ⟨w.heap.size, 2, none⟩ = some (.slice A ps.length c) := (blk_cell HF8.out 2).trans rfl
  clear hB
  refine hK.out _ _ ⟨c80, c81, c82⟩ (fun hHeld => ?_)
  clear hK K
  refine norm_ (a' := ?_) ?_ ?_
  rotate_left
  · show Act.put _ (some 55) _ = _
    simp only [Act.put, List.setIfInBounds_toArray, List.set_cons_zero, List.set_cons_succ, i64_w, i32_w]
    rfl
  refine pure_ (i := 6) (N := some 56) (v := ?_) (a' := ?_) #[true, true, true, true, true, true, true, false, false, false, false, false, false, false, false, false, false, false, false, false, false, false, false, false, false, false, false, false, false, false, false, false, false, false, false, false, false, false, false, false, false, false, false] rfl rfl (by kernel_rfl) (fun _ _ _ h => h) (Or.inl ⟨by rfl, ?_⟩) ?_ ?_
  rotate_left
  · intro w'
    go_simp
    with_reducible rfl
  rotate_left
  · simp only [Act.put, List.setIfInBounds_toArray, List.set_cons_zero, List.set_cons_succ, i64_w, i32_w]
    rfl
  refine pure_ (i := 7) (N := some 57) (v := ?_) (a' := ?_) #[true, true, true, true, true, true, true, true, false, false, false, false, false, false, false, false, false, false, false, false, false, false, false, false, false, false, false, false, false, false, false, false, false, false, false, false, false, false, false, false, false, false, false] rfl rfl (by kernel_rfl) (fun _ _ _ h => h) (Or.inl ⟨by rfl, ?_⟩) ?_ ?_
  rotate_left
  · intro w'
    go_simp
    with_reducible rfl
  rotate_left
  · simp only [Act.put, List.setIfInBounds_toArray, List.set_cons_zero, List.set_cons_succ, i64_w, i32_w]
    rfl
  refine pure_ (i := 8) (N := some 58) (v := ?_) (a' := ?_) #[true, true, true, true, true, true, true, true, true, false, false, false, false, false, false, false, false, false, false, false, false, false, false, false, false, false, false, false, false, false, false, false, false, false, false, false, false, false, false, false, false, false, false] rfl rfl (by kernel_rfl) (fun _ _ _ h => h) (Or.inl ⟨by rfl, ?_⟩) ?_ ?_
  rotate_left
  · intro w'
    go_simp
    with_reducible rfl
  rotate_left
  · simp only [Act.put, List.setIfInBounds_toArray, List.set_cons_zero, List.set_cons_succ, i64_w, i32_w]
    rfl
  refine pure_ (i := 9) (N := some 59) (v := ?_) (a' := ?_) #[true, true, true, true, true, true, true, true, true, true, false, false, false, false, false, false, false, false, false, false, false, false, false, false, false, false, false, false, false, false, false, false, false, false, false, false, false, false, false, false, false, false, false] rfl rfl (by kernel_rfl) (fun _ _ _ h => h) (Or.inl ⟨by rfl, ?_⟩) ?_ ?_
  rotate_left
  · intro w'
    go_simp
    with_reducible rfl
  rotate_left
  · simp only [Act.put, List.setIfInBounds_toArray, List.set_cons_zero, List.set_cons_succ, i64_w, i32_w]
    rfl
  refine pure_ (i := 10) (N := some 60) (v := ?_) (a' := ?_) #[true, true, true, true, true, true, true, true, true, true, true, false, false, false, false, false, false, false, false, false, false, false, false, false, false, false, false, false, false, false, false, false, false, false, false, false, false, false, false, false, false, false, false] rfl rfl (by kernel_rfl) (fun _ _ _ h => h) (Or.inl ⟨by rfl, ?_⟩) ?_ ?_
  rotate_left
  · intro w'
    go_simp
    with_reducible rfl
  rotate_left
  · simp only [Act.put, List.setIfInBounds_toArray, List.set_cons_zero, List.set_cons_succ, i64_w, i32_w]
    rfl
  refine pure_ (i := 11) (N := some 61) (v := ?_) (a' := ?_) #[true, true, true, true, true, true, true, true, true, true, true, true, false, false, false, false, false, false, false, false, false, false, false, false, false, false, false, false, false, false, false, false, false, false, false, false, false, false, false, false, false, false, false] rfl rfl (by kernel_rfl) (fun _ _ _ h => h) (Or.inl ⟨by rfl, ?_⟩) ?_ ?_
  rotate_left
  · intro w'
    go_simp
    with_reducible rfl
  rotate_left
  · simp only [Act.put, List.setIfInBounds_toArray, List.set_cons_zero, List.set_cons_succ, i64_w, i32_w]
    rfl
  refine pure_ (i := 12) (N := some 62) (v := ?_) (a' := ?_) #[true, true, true, true, true, true, true, true, true, true, true, true, true, false, false, false, false, false, false, false, false, false, false, false, false, false, false, false, false, false, false, false, false, false, false, false, false, false, false, false, false, false, false] rfl rfl (by kernel_rfl) (fun _ _ _ h => h) (Or.inl ⟨by rfl, ?_⟩) ?_ ?_
  rotate_left
  · intro w'
    go_simp
    with_reducible rfl
  rotate_left
  · simp only [Act.put, List.setIfInBounds_toArray, List.set_cons_zero, List.set_cons_succ, i64_w, i32_w]
    rfl
  refine pure_ (i := 13) (N := some 63) (v := ?_) (a' := ?_) #[true, true, true, true, true, true, true, true, true, true, true, true, true, true, false, false, false, false, false, false, false, false, false, false, false, false, false, false, false, false, false, false, false, false, false, false, false, false, false, false, false, false, false] rfl rfl (by kernel_rfl) (fun _ _ _ h => h) (Or.inl ⟨by rfl, ?_⟩) ?_ ?_
  rotate_left
  · intro w'
    go_simp
    with_reducible rfl
  rotate_left
  · simp only [Act.put, List.setIfInBounds_toArray, List.set_cons_zero, List.set_cons_succ, i64_w, i32_w]
    rfl
  refine pure_ (i := 14) (N := some 64) (v := ?_) (a' := ?_) #[true, true, true, true, true, true, true, true, true, true, true, true, true, true, true, false, false, false, false, false, false, false, false, false, false, false, false, false, false, false, false, false, false, false, false, false, false, false, false, false, false, false, false] rfl rfl (by kernel_rfl) (fun _ _ _ h => h) (Or.inl ⟨by rfl, ?_⟩) ?_ ?_
  rotate_left
  · intro w'
    go_simp
    with_reducible rfl
  rotate_left
  · simp only [Act.put, List.setIfInBounds_toArray, List.set_cons_zero, List.set_cons_succ, i64_w, i32_w]
    rfl
  refine pure_ (i := 15) (N := some 65) (v := ?_) (a' := ?_) #[true, true, true, true, true, true, true, true, true, true, true, true, true, true, true, true, false, false, false, false, false, false, false, false, false, false, false, false, false, false, false, false, false, false, false, false, false, false, false, false, false, false, false] rfl rfl (by kernel_rfl) (fun _ _ _ h => h) (Or.inl ⟨by rfl, ?_⟩) ?_ ?_
  rotate_left
  · intro w'
    go_simp
    with_reducible rfl
  rotate_left
  · simp only [Act.put, List.setIfInBounds_toArray, List.set_cons_zero, List.set_cons_succ, i64_w, i32_w]
    rfl
  refine pure_ (i := 16) (N := some 66) (v := ?_) (a' := ?_) #[true, true, true, true, true, true, true, true, true, true, true, true, true, true, true, true, true, false, false, false, false, false, false, false, false, false, false, false, false, false, false, false, false, false, false, false, false, false, false, false, false, false, false] rfl rfl (by kernel_rfl) (fun _ _ _ h => h) (Or.inl ⟨by rfl, ?_⟩) ?_ ?_
  rotate_left
  · intro w'
    go_simp
    with_reducible rfl
  rotate_left
  · simp only [Act.put, List.setIfInBounds_toArray, List.set_cons_zero, List.set_cons_succ, i64_w, i32_w]
    rfl
  refine pure_ (i := 17) (N := some 67) (v := ?_) (a' := ?_) #[true, true, true, true, true, true, true, true, true, true, true, true, true, true, true, true, true, true, false, false, false, false, false, false, false, false, false, false, false, false, false, false, false, false, false, false, false, false, false, false, false, false, false] rfl rfl (by kernel_rfl) (fun _ _ _ h => h) (Or.inl ⟨by rfl, ?_⟩) ?_ ?_
  rotate_left
  · intro w'
    go_simp
    with_reducible rfl
  rotate_left
  · simp only [Act.put, List.setIfInBounds_toArray, List.set_cons_zero, List.set_cons_succ, i64_w, i32_w]
    rfl
  refine pure_ (i := 18) (N := some 68) (v := ?_) (a' := ?_) #[true, true, true, true, true, true, true, true, true, true, true, true, true, true, true, true, true, true, true, false, false, false, false, false, false, false, false, false, false, false, false, false, false, false, false, false, false, false, false, false, false, false, false] rfl rfl (by kernel_rfl) (fun _ _ _ h => h) (Or.inl ⟨by rfl, ?_⟩) ?_ ?_
  rotate_left
  · intro w'
    go_simp
    with_reducible rfl
  rotate_left
  · simp only [Act.put, List.setIfInBounds_toArray, List.set_cons_zero, List.set_cons_succ, i64_w, i32_w]
    rfl
  refine pure_ (i := 19) (N := some 69) (v := ?_) (a' := ?_) #[true, true, true, true, true, true, true, true, true, true, true, true, true, true, true, true, true, true, true, true, false, false, false, false, false, false, false, false, false, false, false, false, false, false, false, false, false, false, false, false, false, false, false] rfl rfl (by kernel_rfl) (fun _ _ _ h => h) (Or.inl ⟨by rfl, ?_⟩) ?_ ?_
  rotate_left
  · intro w'
    go_simp
    with_reducible rfl
  rotate_left
  · simp only [Act.put, List.setIfInBounds_toArray, List.set_cons_zero, List.set_cons_succ, i64_w, i32_w]
    rfl
  refine pure_ (i := 20) (N := some 70) (v := ?_) (a' := ?_) #[true, true, true, true, true, true, true, true, true, true, true, true, true, true, true, true, true, true, true, true, true, false, false, false, false, false, false, false, false, false, false, false, false, false, false, false, false, false, false, false, false, false, false] rfl rfl (by kernel_rfl) (fun _ _ _ h => h) (Or.inl ⟨by rfl, ?_⟩) ?_ ?_
  rotate_left
  · intro w'
    go_simp
    with_reducible rfl
  rotate_left
  · simp only [Act.put, List.setIfInBounds_toArray, List.set_cons_zero, List.set_cons_succ, i64_w, i32_w]
    rfl
  refine pure_ (i := 21) (N := some 71) (v := ?_) (a' := ?_) #[true, true, true, true, true, true, true, true, true, true, true, true, true, true, true, true, true, true, true, true, true, true, false, false, false, false, false, false, false, false, false, false, false, false, false, false, false, false, false, false, false, false, false] rfl rfl (by kernel_rfl) (fun _ _ _ h => h) (Or.inl ⟨by rfl, ?_⟩) ?_ ?_
  rotate_left
  · intro w'
    go_simp
    with_reducible rfl
  rotate_left
  · simp only [Act.put, List.setIfInBounds_toArray, List.set_cons_zero, List.set_cons_succ, i64_w, i32_w]
    rfl
  refine pure_ (i := 22) (N := some 72) (v := ?_) (a' := ?_) #[true, true, true, true, true, true, true, true, true, true, true, true, true, true, true, true, true, true, true, true, true, true, true, false, false, false, false, false, false, false, false, false, false, false, false, false, false, false, false, false, false, false, false] rfl rfl (by kernel_rfl) (fun _ _ _ h => h) (Or.inl ⟨by rfl, ?_⟩) ?_ ?_
  rotate_left
  · intro w'
    go_simp
    with_reducible rfl
  rotate_left
  · simp only [Act.put, List.setIfInBounds_toArray, List.set_cons_zero, List.set_cons_succ, i64_w, i32_w]
    rfl
  refine pure_ (i := 23) (N := some 73) (v := ?_) (a' := ?_) #[true, true, true, true, true, true, true, true, true, true, true, true, true, true, true, true, true, true, true, true, true, true, true, true, false, false, false, false, false, false, false, false, false, false, false, false, false, false, false, false, false, false, false] rfl rfl (by kernel_rfl) (fun _ _ _ h => h) (Or.inl ⟨by rfl, ?_⟩) ?_ ?_
  rotate_left
  · intro w'
    go_simp
    with_reducible rfl
  rotate_left
  · simp only [Act.put, List.setIfInBounds_toArray, List.set_cons_zero, List.set_cons_succ, i64_w, i32_w]
    rfl
  refine pure_ (i := 24) (N := some 74) (v := ?_) (a' := ?_) #[true, true, true, true, true, true, true, true, true, true, true, true, true, true, true, true, true, true, true, true, true, true, true, true, true, false, false, false, false, false, false, false, false, false, false, false, false, false, false, false, false, false, false] rfl rfl (by kernel_rfl) (fun _ _ _ h => h) (Or.inl ⟨by rfl, ?_⟩) ?_ ?_
  rotate_left
  · intro w'
    go_simp
    with_reducible rfl
  rotate_left
  · simp only [Act.put, List.setIfInBounds_toArray, List.set_cons_zero, List.set_cons_succ, i64_w, i32_w]
    rfl
  refine pure_ (i := 25) (N := some 75) (v := ?_) (a' := ?_) #[true, true, true, true, true, true, true, true, true, true, true, true, true, true, true, true, true, true, true, true, true, true, true, true, true, true, false, false, false, false, false, false, false, false, false, false, false, false, false, false, false, false, false] rfl rfl (by kernel_rfl) (fun _ _ _ h => h) (Or.inl ⟨by rfl, ?_⟩) ?_ ?_
  rotate_left
  · intro w'
    go_simp
    with_reducible rfl
  rotate_left
  · simp only [Act.put, List.setIfInBounds_toArray, List.set_cons_zero, List.set_cons_succ, i64_w, i32_w]
    rfl
  refine pure_ (i := 26) (N := some 76) (v := ?_) (a' := ?_) #[true, true, true, true, true, true, true, true, true, true, true, true, true, true, true, true, true, true, true, true, true, true, true, true, true, true, true, false, false, false, false, false, false, false, false, false, false, false, false, false, false, false, false] rfl rfl (by kernel_rfl) (fun _ _ _ h => h) (Or.inl ⟨by rfl, ?_⟩) ?_ ?_
  rotate_left
  · intro w'
    go_simp
    with_reducible rfl
  rotate_left
  · simp only [Act.put, List.setIfInBounds_toArray, List.set_cons_zero, List.set_cons_succ, i64_w, i32_w]
    rfl
  refine pure_ (i := 27) (N := some 77) (v := ?_) (a' := ?_) #[true, true, true, true, true, true, true, true, true, true, true, true, true, true, true, true, true, true, true, true, true, true, true, true, true, true, true, true, false, false, false, false, false, false, false, false, false, false, false, false, false, false, false] rfl rfl (by kernel_rfl) (fun _ _ _ h => h) (Or.inl ⟨by rfl, ?_⟩) ?_ ?_
  rotate_left
  · intro w'
    go_simp
    with_reducible rfl
  rotate_left
  · simp only [Act.put, List.setIfInBounds_toArray, List.set_cons_zero, List.set_cons_succ, i64_w, i32_w]
    rfl
  refine pure_ (i := 28) (N := some 78) (v := ?_) (a' := ?_) #[true, true, true, true, true, true, true, true, true, true, true, true, true, true, true, true, true, true, true, true, true, true, true, true, true, true, true, true, true, false, false, false, false, false, false, false, false, false, false, false, false, false, false] rfl rfl (by kernel_rfl) (fun _ _ _ h => h) (Or.inl ⟨by rfl, ?_⟩) ?_ ?_
  rotate_left
  · intro w'
    go_simp
    with_reducible rfl
  rotate_left
  · simp only [Act.put, List.setIfInBounds_toArray, List.set_cons_zero, List.set_cons_succ, i64_w, i32_w]
    rfl
  refine pure_ (i := 30) (N := some 80) (v := ?_) (a' := ?_) #[true, true, true, true, true, true, true, true, true, true, true, true, true, true, true, true, true, true, true, true, true, true, true, true, true, true, true, true, true, false, true, false, false, false, false, false, false, false, false, false, false, false, false] rfl rfl (by kernel_rfl) (fun _ _ _ h => h) (Or.inl ⟨by rfl, ?_⟩) ?_ ?_
  rotate_left
  · intro w'
    go_simp
    with_reducible rfl
  rotate_left
  · simp only [Act.put, List.setIfInBounds_toArray, List.set_cons_zero, List.set_cons_succ, i64_w, i32_w]
    rfl
  refine pure_ (i := 32) (N := some 82) (v := ?_) (a' := ?_) #[true, true, true, true, true, true, true, true, true, true, true, true, true, true, true, true, true, true, true, true, true, true, true, true, true, true, true, true, true, false, true, false, true, false, false, false, false, false, false, false, false, false, false] rfl rfl (by kernel_rfl) (fun _ _ _ h => h) (Or.inl ⟨by rfl, ?_⟩) ?_ ?_
  rotate_left
  · intro w'
    go_simp
    with_reducible rfl
  rotate_left
  · simp only [Act.put, List.setIfInBounds_toArray, List.set_cons_zero, List.set_cons_succ, i64_w, i32_w]
    rfl
  refine pure_ (i := 35) (N := some 85) (v := ?_) (a' := ?_) #[true, true, true, true, true, true, true, true, true, true, true, true, true, true, true, true, true, true, true, true, true, true, true, true, true, true, true, true, true, false, true, false, true, false, false, true, false, false, false, false, false, false, false] rfl rfl (by kernel_rfl) (fun _ _ _ h => h) (Or.inl ⟨by rfl, ?_⟩) ?_ ?_
  rotate_left
  · intro w'
    go_simp
    with_reducible rfl
  rotate_left
  · simp only [Act.put, List.setIfInBounds_toArray, List.set_cons_zero, List.set_cons_succ, i64_w, i32_w]
    rfl
  refine pure_ (i := 38) (N := some 88) (v := ?_) (a' := ?_) #[true, true, true, true, true, true, true, true, true, true, true, true, true, true, true, true, true, true, true, true, true, true, true, true, true, true, true, true, true, false, true, false, true, false, false, true, false, false, true, false, false, false, false] rfl rfl (by kernel_rfl) (fun _ _ _ h => h) (Or.inl ⟨by rfl, ?_⟩) ?_ ?_
  rotate_left
  · intro w'
    go_simp
    with_reducible rfl
  rotate_left
  · simp only [Act.put, List.setIfInBounds_toArray, List.set_cons_zero, List.set_cons_succ, i64_w, i32_w]
    rfl
  refine take_ (i := 29) (N := some 79) (v := ?_) (a' := ?_) #[true, true, true, true, true, true, true, true, true, true, true, true, true, true, true, true, true, true, true, true, true, true, true, true, true, true, true, true, true, true, true, false, true, false, false, true, false, false, true, false, false, false, false] rfl rfl (by kernel_rfl) (fun _ _ _ h => h) (Or.inl ⟨by rfl, ?_⟩) hHeld ?_ ?_
  rotate_left
  · rintro w' ⟨s0, s1, s2⟩
    go_simp
    with_reducible rfl
  rotate_left
  · simp only [Act.put, List.setIfInBounds_toArray, List.set_cons_zero, List.set_cons_succ, i64_w, i32_w]
    rfl
  refine take_ (i := 33) (N := some 83) (v := ?_) (a' := ?_) #[true, true, true, true, true, true, true, true, true, true, true, true, true, true, true, true, true, true, true, true, true, true, true, true, true, true, true, true, true, true, true, false, true, true, false, true, false, false, true, false, false, false, false] rfl rfl (by kernel_rfl) (fun _ _ _ h => h) (Or.inl ⟨by rfl, ?_⟩) hHeld ?_ ?_
  rotate_left
  · rintro w' ⟨s0, s1, s2⟩
    go_simp
    with_reducible rfl
  rotate_left
  · simp only [Act.put, List.setIfInBounds_toArray, List.set_cons_zero, List.set_cons_succ, i64_w, i32_w]
    rfl
  refine pure_ (i := 34) (N := some 84) (v := ?_) (a' := ?_) #[true, true, true, true, true, true, true, true, true, true, true, true, true, true, true, true, true, true, true, true, true, true, true, true, true, true, true, true, true, true, true, false, true, true, true, true, false, false, true, false, false, false, false] rfl rfl (by kernel_rfl) (fun _ _ _ h => h) (Or.inl ⟨by rfl, ?_⟩) ?_ ?_
  rotate_left
  · intro w'
    go_simp
    with_reducible rfl
  rotate_left
  · simp only [Act.put, List.setIfInBounds_toArray, List.set_cons_zero, List.set_cons_succ, i64_w, i32_w]
    rfl
  refine take_ (i := 36) (N := some 86) (v := ?_) (a' := ?_) #[true, true, true, true, true, true, true, true, true, true, true, true, true, true, true, true, true, true, true, true, true, true, true, true, true, true, true, true, true, true, true, false, true, true, true, true, true, false, true, false, false, false, false] rfl rfl (by kernel_rfl) (fun _ _ _ h => h) (Or.inl ⟨by rfl, ?_⟩) hHeld ?_ ?_
  rotate_left
  · rintro w' ⟨s0, s1, s2⟩
    go_simp
    with_reducible rfl
  rotate_left
  · simp only [Act.put, List.setIfInBounds_toArray, List.set_cons_zero, List.set_cons_succ, i64_w, i32_w]
    rfl
  refine pure_ (i := 37) (N := some 87) (v := ?_) (a' := ?_) #[true, true, true, true, true, true, true, true, true, true, true, true, true, true, true, true, true, true, true, true, true, true, true, true, true, true, true, true, true, true, true, false, true, true, true, true, true, true, true, false, false, false, false] rfl rfl (by kernel_rfl) (fun _ _ _ h => h) (Or.inl ⟨by rfl, ?_⟩) ?_ ?_
  rotate_left
  · intro w'
    go_simp
    with_reducible rfl
  rotate_left
  · simp only [Act.put, List.setIfInBounds_toArray, List.set_cons_zero, List.set_cons_succ, i64_w, i32_w]
    rfl
  refine pure_ (i := 39) (N := some 89) (v := ?_) (a' := ?_) #[true, true, true, true, true, true, true, true, true, true, true, true, true, true, true, true, true, true, true, true, true, true, true, true, true, true, true, true, true, true, true, false, true, true, true, true, true, true, true, true, false, false, false] rfl rfl (by kernel_rfl) (fun _ _ _ h => h) (Or.inl ⟨by rfl, ?_⟩) ?_ ?_
  rotate_left
  · intro w'
    go_simp
    with_reducible rfl
  rotate_left
  · simp only [Act.put, List.setIfInBounds_toArray, List.set_cons_zero, List.set_cons_succ, i64_w, i32_w]
    rfl
  refine one_ (i := 31) (N := some 81) #[true, true, true, true, true, true, true, true, true, true, true, true, true, true, true, true, true, true, true, true, true, true, true, true, true, true, true, true, true, true, true, true, true, true, true, true, true, true, true, true, false, false, false] rfl rfl (by kernel_rfl) (by decide) (fun K hK => ?_)
  refine goes_ Try.func19 (by kernel_rfl) rfl #[.agg #[.string st, .string ss, .slice A ps.length c], .string sb] (by rfl) rfl rfl (by simp only [List.map_toArray, List.map_cons, List.map_nil] <;> rfl) ?_
  with_reducible refine (HIS.out _ HP8.out).mono ?_
  rintro e w9 ⟨rfl, hB⟩
  refine ⟨_, rfl, ?_⟩
  have HX9 := Lib.hid hB
  have HF9 := Lib.hid (blk_below HF8.out HX9.out)
  have HP9 := Lib.hid (HP8.out.below HX9.out)
  have HB9 := Lib.hid (below_then HB8.out HB8.out.size HX9.out)
  have c90 : w9.cell? ⟨w.heap.size, 0, none⟩ = some (.string st) := (blk_cell HF9.out 0).trans rfl
  have c91 : w9.cell? ⟨w.heap.size, 1, none⟩ = some (.string ss) := (blk_cell HF9.out 1).trans rfl
  have c92 : w9.cell? ⟨w.heap.size, 2, none⟩ = some (.slice A ps.length c) := (blk_cell HF9.out 2).trans rfl
  clear hB
  refine hK.out _ _ ⟨c90, c91, c92⟩ (fun hHeld => ?_)
  clear hK K
  refine norm_ (a' := ?_) ?_ ?_
  rotate_left
  · show Act.put _ (some 81) _ = _
    simp only [Act.put, List.setIfInBounds_toArray, List.set_cons_zero, List.set_cons_succ, i64_w, i32_w]
    rfl
  refine pure_ (i := 40) (N := some 90) (v := ?_) (a' := ?_) #[true, true, true, true, true, true, true, true, true, true, true, true, true, true, true, true, true, true, true, true, true, true, true, true, true, true, true, true, true, true, true, true, true, true, true, true, true, true, true, true, true, false, false] rfl rfl (by kernel_rfl) (fun _ _ _ h => h) (Or.inl ⟨by rfl, ?_⟩) ?_ ?_
  rotate_left
  · intro w'
    go_simp
    with_reducible rfl
  rotate_left
  · simp only [Act.put, List.setIfInBounds_toArray, List.set_cons_zero, List.set_cons_succ, i64_w, i32_w]
    rfl
  refine pure_ (i := 41) (N := some 91) (v := ?_) (a' := ?_) #[true, true, true, true, true, true, true, true, true, true, true, true, true, true, true, true, true, true, true, true, true, true, true, true, true, true, true, true, true, true, true, true, true, true, true, true, true, true, true, true, true, true, false] rfl rfl (by kernel_rfl) (fun _ _ _ h => h) (Or.inl ⟨by rfl, ?_⟩) ?_ ?_
  rotate_left
  · intro w'
    go_simp
    with_reducible rfl
  rotate_left
  · simp only [Act.put, List.setIfInBounds_toArray, List.set_cons_zero, List.set_cons_succ, i64_w, i32_w]
    rfl
  refine pure_ (i := 42) (N := some 6) (v := ?_) (a' := ?_) #[true, true, true, true, true, true, true, true, true, true, true, true, true, true, true, true, true, true, true, true, true, true, true, true, true, true, true, true, true, true, true, true, true, true, true, true, true, true, true, true, true, true, true] rfl rfl (by kernel_rfl) (fun _ _ _ h => h) (Or.inl ⟨by rfl, ?_⟩) ?_ ?_
  rotate_left
  · intro w'
    go_simp
    with_reducible rfl
  rotate_left
  · simp only [Act.put, List.setIfInBounds_toArray, List.set_cons_zero, List.set_cons_succ, i64_w, i32_w]
    rfl
  refine done_ (by kernel_rfl) ?_
  go_wp2
  go_ret
  exact ⟨rfl, HB9.out⟩
  -- ENDW7
theorem writes_law (t s : List Int) (ps : List Pm) (A : Option Addr) (c : Nat) (a b : ByteArray) (w : World) (hP : PRow w A ps) (hc : ps.length ≤ c) (hk : GOk t s ps) (ha : a.size ≤ 140737488351232) (hb : b.size ≤ 140737488351232) :
    Calls Try.prog 4 #[.agg #[.string (St t), .string (St s), .slice A ps.length c], .string a, .string b] w fun e w' => e = .returned (.bool true) ∧ Below w.heap.size w w' := by
  rcases hg : greatB t s ps with _ | _
  · by_cases h1 : a.size ≤ 300
    · by_cases h2 : b.size ≤ 300
      · obtain ⟨an, han, rfl⟩ := st_of a
        obtain ⟨bn, hbn, rfl⟩ := st_of b
        rw [St_size] at h1 h2
        exact writes_all t s ps A c an bn w han hbn hk hP hc hg h1 h2
      · exact writes_long t s ps A c a b w hk hP hc hg (.inr ⟨h1, by omega⟩)
    · exact writes_long t s ps A c a b w hk hP hc hg (.inl (by omega))
  · exact writes_great t s ps A c a b w hk hP hc hg
end Go.Proofs.Ytdnehnjcbdkgcaa
