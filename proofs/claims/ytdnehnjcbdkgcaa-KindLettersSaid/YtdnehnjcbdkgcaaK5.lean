/- kind: a parameter off a text's front. -/
import Derived.Test.YtdnehnjcbdkgcaaK4
namespace Go.Proofs.Ytdnehnjcbdkgcaa
open Go.RowKit Go.Shelf Go.Proofs.YtdnehnjcbdkgcaaW.PrintWords

/-- name, value, what is left, is it one -/
def paramL (l : List Int) : List Int × List Int × List Int × Bool :=
  match cutP 61 (restL l) with
  | none => ([], [], [], false)
  | some q => if hasP 34 q = true then (lowL (tokL l), (quoR (quoL [] (q.drop 1))).1, (quoR (quoL [] (q.drop 1))).2.1, (quoR (quoL [] (q.drop 1))).2.2) else (lowL (tokL l), tokL q, restL q, tokenB (tokL q))
theorem takeWhile_bytes {l : List Int} (h : Bytes l) (p : Int → Bool) : Bytes (l.takeWhile p) := fun x hx => h x (List.takeWhile_subset _ hx)
theorem dropWhile_bytes {l : List Int} (h : Bytes l) (p : Int → Bool) : Bytes (l.dropWhile p) := fun x hx => h x (List.dropWhile_subset _ hx)
theorem tokL_bytes {l : List Int} (h : Bytes l) : Bytes (tokL l) := takeWhile_bytes h _
theorem restL_bytes {l : List Int} (h : Bytes l) : Bytes (restL l) := dropWhile_bytes h _
theorem tokL_len (l : List Int) : (tokL l).length ≤ l.length := (List.takeWhile_sublist _).length_le
theorem restL_len (l : List Int) : (restL l).length ≤ l.length := (List.dropWhile_sublist _).length_le
theorem cutP_of {p : Int} {l t : List Int} (h : cutP p l = some t) : l = p :: t := by
  rcases l with _ | ⟨c, t'⟩
  · cases h
  · rw [cutP_cons] at h
    split at h
    · rename_i hc
      injection h with h; rw [h, hc]
    · cases h
theorem token_all (l : List Int) (hby : Bytes l) (hl : l.length ≤ 4611686018427387904) (w : World) :
    Calls Try.prog 22 #[.string (St l)] w fun e w' => e = .returned (.tuple #[.string (St (tokL l)), .string (St (restL l))]) ∧ Below w.heap.size w w' := by
  refine (token_any l w hby hl).mono ?_
  rintro e w' ⟨rfl, n, rfl⟩
  exact ⟨rfl, pw_below_drewN (Below.refl _ _) n⟩
theorem info_param : (Try.prog.info? 42).map (·.size) = some 2 := by kernel_rfl
def ParEnds (w : World) (r : List Int × List Int × List Int × Bool) (e : Ending) (w' : World) : Prop := e = .returned (.tuple #[.agg #[.string (St r.1), .string (St r.2.1)], .string (St r.2.2.1), .bool r.2.2.2]) ∧ Below w.heap.size w w'
set_option maxRecDepth 100000 in
set_option maxHeartbeats 2000000 in
theorem param_none (l : List Int) (w : World) (hby : Bytes l) (hl : l.length ≤ 140737488355327) (hc : cutP 61 (restL l) = none) :
    Calls Try.prog 26 #[.string (St l)] w (ParEnds w ([], [], [], false)) := by
  have HT := Lib.hid (token_all l hby (by omega))
  have HC := Lib.hid (fun W => cut_any 61 (St [61]) (restL l) W rfl (by omega) (restL_bytes hby) (Nat.le_trans (restL_len l) (by omega)))
  have hh : hasP 61 (restL l) = false := by unfold hasP; rw [hc]; rfl
  rw [hc, hh, Option.getD_none] at HC
  unfold CutEnds at HC
  have HE : Hid (St [61] = ⟨#[61]⟩) := Lib.hid rfl
  rw [HE.out] at HC
  clear HE hh hc hby hl
  generalize St (tokL l) = s1 at *
  generalize St (restL l) = s2 at *
  generalize St l = s at *
  go_enter Try.func26, Try.ntmps26
  go_wp2_with (first
    | (go_at_call 22; ((with_reducible refine (HT.out _).mono ?_); rintro e w1 ⟨rfl, hB⟩; have HF1 := Lib.hid (blk_below (blk_new w _) hB); have HB1 := Lib.hid (below_then ((Below.refl w.heap.size w).alloc (Nat.le_refl _) _) ((Below.refl w.heap.size w).alloc (Nat.le_refl _) _).size hB); have c0 : w1.cell? ⟨w.heap.size, 0, none⟩ = some (.string ⟨#[]⟩) := (blk_cell HF1.out 0).trans rfl; have c1 : w1.cell? ⟨w.heap.size, 1, none⟩ = some (.string ⟨#[]⟩) := (blk_cell HF1.out 1).trans rfl; have z0 := blk_frozen HF1.out 0; have z1 := blk_frozen HF1.out 1; clear hB))
    | (go_at_call 24; ((with_reducible refine (HC.out _).mono ?_); rintro e w1 ⟨rfl, rfl⟩)))
  have HF2 := blk_set (blk_set HF1.out 0 (.string ⟨#[]⟩)) 1 (.string ⟨#[]⟩)
  refine bodyPost_ret (results_ctt rfl _ _ _ _ _ _ _ rfl HF2 Try.underlying42 rfl (by kernel_rfl)) rfl ?_
  exact ⟨rfl, below_set (below_set HB1.out (Nat.le_refl _)) (Nat.le_refl _)⟩
theorem lower_St (l : List Int) (hby : Bytes l) (hl : l.length ≤ 9223372036854775807) (w : World) :
    Calls Try.prog 25 #[.string (St l)] w fun e w' => e = .returned (.string (St (lowL l))) ∧ Below w.heap.size w w' := by
  have h := kind_lower_any (St l) w (by rw [St_size]; exact hl)
  rwa [show lowS (St l) = St (lowL l) by unfold lowS; rw [bytesOf_St hby]; rfl] at h
set_option maxRecDepth 100000 in
set_option maxHeartbeats 2000000 in
theorem param_quo (l q : List Int) (w : World) (hby : Bytes l) (hl : l.length ≤ 140737488355327) (hc : cutP 61 (restL l) = some q) (hq : hasP 34 q = true) (h1 : 1 ≤ q.length) :
    Calls Try.prog 26 #[.string (St l)] w (ParEnds w (lowL (tokL l), (quoR (quoL [] (q.drop 1))).1, (quoR (quoL [] (q.drop 1))).2.1, (quoR (quoL [] (q.drop 1))).2.2)) := by
  have hrb := restL_bytes hby
  have hrl := restL_len l
  have htl := tokL_len l
  have hqr := cutP_of hc
  have hqb : Bytes q := fun x hx => hrb x (by rw [hqr]; exact List.mem_cons_of_mem _ hx)
  have hql : q.length ≤ 140737488355327 := by rw [hqr, List.length_cons] at hrl; omega
  have HT := Lib.hid (token_all l hby (by omega))
  have HC := Lib.hid (fun W => cut_any 61 (St [61]) (restL l) W rfl (by omega) hrb (by omega))
  have HH := Lib.hid (fun W => has_any 34 (St [34]) q W rfl (by omega) hqb (by omega))
  have HL := Lib.hid (lower_St (tokL l) (tokL_bytes hby) (by omega))
  have HQ := Lib.hid (fun W => quoted_any q W hqb h1 hql)
  have hh : hasP 61 (restL l) = true := by unfold hasP; rw [hc]; rfl
  rw [hc, hh, Option.getD_some] at HC
  rw [hq] at HH
  unfold CutEnds at HC
  unfold QuoEnds at HQ
  unfold ParEnds
  have HE : Hid (St [61] = ⟨#[61]⟩) := Lib.hid rfl
  have HE2 : Hid (St [34] = ⟨#[34]⟩) := Lib.hid rfl
  rw [HE.out] at HC
  rw [HE2.out] at HH
  clear HE HE2 hh hc hby hl hrb hrl htl hqr hqb hql h1 hq
  generalize quoR (quoL [] (q.drop 1)) = R at *
  obtain ⟨r1, r2, r3⟩ := R
  simp only at *
  generalize St r1 = v1 at *
  generalize St r2 = v2 at *
  generalize St (lowL (tokL l)) = sn at *
  generalize St (tokL l) = s1 at *
  generalize St (restL l) = s2 at *
  generalize St q = s3 at *
  generalize St l = s at *
  go_enter Try.func26, Try.ntmps26
  go_wp2_with (first
    | (go_at_call 22; ((with_reducible refine (HT.out _).mono ?_); rintro e w1 ⟨rfl, hB⟩; have HF1 := Lib.hid (blk_below (blk_new w _) hB); have HB1 := Lib.hid (below_then ((Below.refl w.heap.size w).alloc (Nat.le_refl _) _) ((Below.refl w.heap.size w).alloc (Nat.le_refl _) _).size hB); clear hB))
    | (go_at_call 24; ((with_reducible refine (HC.out _).mono ?_); rintro e w1 ⟨rfl, rfl⟩))
    | (go_at_call 41; ((with_reducible refine (HH.out _).mono ?_); rintro e w1 ⟨rfl, rfl⟩))
    | (go_at_call 25; ((with_reducible refine (HL.out _).mono ?_); rintro e w2 ⟨rfl, hB⟩; have HF2 := Lib.hid (blk_below HF1.out hB); have HB2 := Lib.hid (below_then HB1.out HB1.out.size hB); clear hB))
    | (go_at_call 42; ((with_reducible refine (HQ.out _).mono ?_); rintro e w3 ⟨rfl, hB⟩; have HF3 := Lib.hid (blk_below (blk_alloc HF2.out _) hB); have HP3 := Lib.hid (blk_below (blk_new w2 _) hB); have HB3 := Lib.hid (below_then (HB2.out.alloc HB2.out.size _) (HB2.out.alloc HB2.out.size _).size hB); have hn1 : w.heap.size ≠ w2.heap.size := Nat.ne_of_lt (blk_lt HF2.out); have hn2 := hn1.symm; have c0 : w3.cell? ⟨w.heap.size, 0, none⟩ = some (.string ⟨#[]⟩) := (blk_cell HF3.out 0).trans rfl; have c1 : w3.cell? ⟨w.heap.size, 1, none⟩ = some (.string ⟨#[]⟩) := (blk_cell HF3.out 1).trans rfl; have z0 := blk_frozen HF3.out 0; have z1 := blk_frozen HF3.out 1; have d0 : w3.cell? ⟨w2.heap.size, 0, none⟩ = some (.string sn) := (blk_cell HP3.out 0).trans rfl; have d1 : w3.cell? ⟨w2.heap.size, 1, none⟩ = some (.string ⟨#[]⟩) := (blk_cell HP3.out 1).trans rfl; have y0 := blk_frozen HP3.out 0; have y1 := blk_frozen HP3.out 1; clear hB)))
  have HF4 := blk_set (blk_set (blk_far HF3.out (p := ⟨w2.heap.size, 1, none⟩) hn1 (.string v1)) 0 (.string sn)) 1 (.string v1)
  refine bodyPost_ret (results_ctt rfl _ _ _ _ _ _ _ rfl HF4 Try.underlying42 rfl (by kernel_rfl)) rfl ?_
  exact ⟨rfl, below_set (below_set (below_set HB3.out HB2.out.size) (Nat.le_refl _)) (Nat.le_refl _)⟩
set_option maxRecDepth 100000 in
set_option maxHeartbeats 2000000 in
theorem param_tok (l q : List Int) (w : World) (hby : Bytes l) (hl : l.length ≤ 140737488355327) (hc : cutP 61 (restL l) = some q) (hq : hasP 34 q = false) :
    Calls Try.prog 26 #[.string (St l)] w (ParEnds w (lowL (tokL l), tokL q, restL q, tokenB (tokL q))) := by
  have hrb := restL_bytes hby
  have hrl := restL_len l
  have htl := tokL_len l
  have hqr := cutP_of hc
  have hqb : Bytes q := fun x hx => hrb x (by rw [hqr]; exact List.mem_cons_of_mem _ hx)
  have hql : q.length ≤ 140737488355327 := by rw [hqr, List.length_cons] at hrl; omega
  have HT := Lib.hid (token_all l hby (by omega))
  have HC := Lib.hid (fun W => cut_any 61 (St [61]) (restL l) W rfl (by omega) hrb (by omega))
  have HH := Lib.hid (fun W => has_any 34 (St [34]) q W rfl (by omega) hqb (by omega))
  have HL := Lib.hid (lower_St (tokL l) (tokL_bytes hby) (by omega))
  have HQ := Lib.hid (token_all q hqb (by omega))
  have HI := Lib.hid (fun W => isToken_any (tokL q) W (tokL_bytes hqb) (Nat.le_trans (tokL_len q) (by omega)))
  have hh : hasP 61 (restL l) = true := by unfold hasP; rw [hc]; rfl
  rw [hc, hh, Option.getD_some] at HC
  rw [hq] at HH
  unfold CutEnds at HC
  unfold ParEnds
  have HE : Hid (St [61] = ⟨#[61]⟩) := Lib.hid rfl
  have HE2 : Hid (St [34] = ⟨#[34]⟩) := Lib.hid rfl
  rw [HE.out] at HC
  rw [HE2.out] at HH
  clear HE HE2 hh hc hby hl hrb hrl htl hqr hqb hql hq
  simp only at *
  generalize tokenB (tokL q) = r3 at *
  generalize St (tokL q) = v1 at *
  generalize St (restL q) = v2 at *
  generalize St (lowL (tokL l)) = sn at *
  generalize St (tokL l) = s1 at *
  generalize St (restL l) = s2 at *
  generalize St q = s3 at *
  generalize St l = s at *
  go_enter Try.func26, Try.ntmps26
  go_wp2_with (first
    | (go_at_call 33; ((with_reducible refine (HI.out _).mono ?_); rintro e w1 ⟨rfl, rfl⟩))
    | (go_at_call 22; ((with_reducible refine (HT.out _).mono ?_); rintro e w1 ⟨rfl, hB⟩; have HF1 := Lib.hid (blk_below (blk_new w _) hB); have HB1 := Lib.hid (below_then ((Below.refl w.heap.size w).alloc (Nat.le_refl _) _) ((Below.refl w.heap.size w).alloc (Nat.le_refl _) _).size hB); clear hB))
    | (go_at_call 24; ((with_reducible refine (HC.out _).mono ?_); rintro e w1 ⟨rfl, rfl⟩))
    | (go_at_call 41; ((with_reducible refine (HH.out _).mono ?_); rintro e w1 ⟨rfl, rfl⟩))
    | (go_at_call 25; ((with_reducible refine (HL.out _).mono ?_); rintro e w2 ⟨rfl, hB⟩; have HF2 := Lib.hid (blk_below HF1.out hB); have HB2 := Lib.hid (below_then HB1.out HB1.out.size hB); clear hB))
    | (go_at_call 22; ((with_reducible refine (HQ.out _).mono ?_); rintro e w3 ⟨rfl, hB⟩; have HF3 := Lib.hid (blk_below (blk_alloc HF2.out _) hB); have HP3 := Lib.hid (blk_below (blk_new w2 _) hB); have HB3 := Lib.hid (below_then (HB2.out.alloc HB2.out.size _) (HB2.out.alloc HB2.out.size _).size hB); have hn1 : w.heap.size ≠ w2.heap.size := Nat.ne_of_lt (blk_lt HF2.out); have hn2 := hn1.symm; have c0 : w3.cell? ⟨w.heap.size, 0, none⟩ = some (.string ⟨#[]⟩) := (blk_cell HF3.out 0).trans rfl; have c1 : w3.cell? ⟨w.heap.size, 1, none⟩ = some (.string ⟨#[]⟩) := (blk_cell HF3.out 1).trans rfl; have z0 := blk_frozen HF3.out 0; have z1 := blk_frozen HF3.out 1; have d0 : w3.cell? ⟨w2.heap.size, 0, none⟩ = some (.string sn) := (blk_cell HP3.out 0).trans rfl; have d1 : w3.cell? ⟨w2.heap.size, 1, none⟩ = some (.string ⟨#[]⟩) := (blk_cell HP3.out 1).trans rfl; have y0 := blk_frozen HP3.out 0; have y1 := blk_frozen HP3.out 1; clear hB)))
  have HF4 := blk_set (blk_set (blk_far HF3.out (p := ⟨w2.heap.size, 1, none⟩) hn1 (.string v1)) 0 (.string sn)) 1 (.string v1)
  refine bodyPost_ret (results_ctt rfl _ _ _ _ _ _ _ rfl HF4 Try.underlying42 rfl (by kernel_rfl)) rfl ?_
  exact ⟨rfl, below_set (below_set (below_set HB3.out HB2.out.size) (Nat.le_refl _)) (Nat.le_refl _)⟩
theorem param_any (l : List Int) (w : World) (hby : Bytes l) (hl : l.length ≤ 140737488355327) :
    Calls Try.prog 26 #[.string (St l)] w (ParEnds w (paramL l)) := by
  unfold paramL
  rcases hc : cutP 61 (restL l) with _ | q
  · exact param_none l w hby hl hc
  · simp only
    by_cases hq : hasP 34 q = true
    · rw [if_pos hq]
      refine param_quo l q w hby hl hc hq ?_
      rcases q with _ | ⟨c, t⟩
      · cases hq
      · simp
    · rw [if_neg hq]
      exact param_tok l q w hby hl hc (by simpa using hq)
end Go.Proofs.Ytdnehnjcbdkgcaa
