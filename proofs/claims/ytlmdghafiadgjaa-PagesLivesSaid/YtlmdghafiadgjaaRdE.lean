/- disk: the document's Crash. -/
import Derived.Test.YtlmdghafiadgjaaRdD
import Derived.Deep.CutRange
namespace Go.Proofs.Ytlmdghafiadgjaa
set_option linter.unusedVariables false
set_option linter.unusedSimpArgs false
open Go.RowKit Go.Proofs.YtlmdghafiadgjaaW.PrintWords Go.Proofs.YtlmdghafiadgjaaW.PrintLast

def crashL (S ps : List (Int × List Int)) (n t : Nat) : List (Int × List Int) :=
  (S ++ ps.take n) ++ match ps[n]? with | some p => [(p.1, tornB t p.2 (nowP (S ++ ps.take n) p.1 z256))] | none => []
def crashR (R : RS) (keep torn : Int) : RS := { R with sure := crashL R.sure R.pend (clampN keep R.pend.length) (clampN torn 256), pend := [], after := -1 }
theorem tornB_succ (j : Nat) (new old : List Int) (h : j < new.length) (h2 : new.length = old.length) : (tornB j new old).set j (rd new (j : Int)) = tornB (j + 1) new old := by
  unfold tornB
  have hl : (new.take j).length = j := by rw [List.length_take]; omega
  rw [List.set_append_right _ _ (by omega), hl, Nat.sub_self, List.drop_eq_getElem_cons (show j < old.length by omega), List.set_cons_zero, List.take_succ_eq_append_getElem h, List.append_assoc, rd_lt new j h]
  rfl
theorem prs_append (a b : List En) : prs (a ++ b) = prs a ++ prs b := by simp [prs]
/-- Nothing is pending any more, and nothing planned. -/
theorem RdV.ended {w : World} {x : Nat} {vs vp : Value} {es ep : List En} {R : RS} {gs : Nat → Prop} (h : RdV w x vs vp es ep R gs) :
    RdV ((w.setCell ⟨x, 2, none⟩ (.slice none 0 0)).setCell ⟨x, 3, none⟩ (.int .i64 (-1))) x vs (.slice none 0 0) es [] { R with pend := [], after := -1 } (fun i => i = x ∨ vs.ownBlock = some i ∨ (Value.slice none 0 0).ownBlock = some i ∨ ∃ e ∈ es ++ [], e.v.ownBlock = some i) := by
  obtain ⟨n1, n2, n3⟩ := h.xne
  refine ⟨blk_set (blk_set h.blk 2 (.slice none 0 0)) 3 (.int .i64 (-1)), own_setCell (own_setCell h.se n1 _) n1 _, own_nil _ _ _ _, fun e he => ?_, none_or _, h.sure, rfl, fun i => Iff.rfl⟩
  have hm : e ∈ es ++ ep := by simp only [List.append_nil] at he; simp [he]
  exact ⟨own_setCell (own_setCell (h.en e hm).1 (n3 e hm) _) (n3 e hm) _, (h.en e hm).2⟩
theorem RdV.ended_new {w : World} {x B : Nat} {vs vp : Value} {es ep : List En} {R : RS} {gs hs : Nat → Prop} (h : RdV w x vs vp es ep R gs) (hgs : ∀ i, gs i → hs i ∨ B ≤ i) :
    ∀ i, (i = x ∨ vs.ownBlock = some i ∨ (Value.slice none 0 0).ownBlock = some i ∨ ∃ e ∈ es ++ [], e.v.ownBlock = some i) → hs i ∨ B ≤ i := by
  rintro j (rfl | hj | hj | ⟨e, he, hj⟩)
  · exact hgs _ h.self
  · exact hgs _ ((h.foot j).2 (.inr (.inl hj)))
  · cases hj
  · have hm : e ∈ es ++ ep := by simp only [List.append_nil] at he; simp [he]
    exact hgs _ ((h.foot j).2 (.inr (.inr (.inr ⟨e, hm, hj⟩))))
theorem crashL_all (S ps : List (Int × List Int)) (t : Nat) : crashL S ps ps.length t = S ++ ps := by
  unfold crashL
  rw [List.take_length, List.getElem?_eq_none (Nat.le_refl _)]
  simp
theorem crashL_at (S ps : List (Int × List Int)) (n t : Nat) (p : Int × List Int) (h : ps[n]? = some p) : crashL S ps n t = (S ++ ps.take n) ++ [(p.1, tornB t p.2 (nowP (S ++ ps.take n) p.1 z256))] := by
  unfold crashL
  rw [h]
theorem prs_take (l : List En) (n : Nat) : prs (l.take n) = (prs l).take n := by simp [prs, List.map_take]
set_option maxRecDepth 100000 in
set_option maxHeartbeats 8000000 in
theorem rcrash_v {x : Nat} {vs vp : Value} {es ep : List En} {R : RS} {gs : Nat → Prop} {w : World} (h : RdV w x vs vp es ep R gs) (hnd : ((es ++ ep).map own).Nodup) (keep torn : Int) (hpl : R.sure.length + R.pend.length ≤ 1000000000) :
    Calls Try.prog 29 #[.pointer (some ⟨x, 0, none⟩), .int .i64 keep, .int .i64 torn] w fun e w' => e = .returned (.tuple #[]) ∧ REff w x gs (crashR R keep torn) w' := by
  have H := Lib.hid h
  have HND := Lib.hid hnd
  have hepl : ep.length ≤ 1000000000 := by
    have e := congrArg List.length h.pend
    simp only [prs, List.length_map] at e
    omega
  have HLB : Hid (es.length + ep.length ≤ 1000000000) := Lib.hid (by
    have e := congrArg List.length h.sure
    have e2 := congrArg List.length h.pend
    simp only [prs, List.length_map] at e e2
    omega)
  obtain ⟨Ap, cp, rfl⟩ := own_slice h.pe
  have km := make256
  have HS0 : Hid (R.sure = prs es) := Lib.hid h.sure
  have HP0 : Hid (R.pend = prs ep) := Lib.hid h.pend
  obtain ⟨Kn, hK⟩ : ∃ Kn, Kn = clampN keep ep.length := ⟨_, rfl⟩
  have HKL : Hid (Kn ≤ ep.length) := Lib.hid (by rw [hK]; exact clampN_le _ _)
  have HK := Lib.hid hK
  clear h hnd hpl hK
  go_enter Try.func29, Try.ntmps29
  go_upto_block 0 with fail
  go_cut [6] from 10 to 42 (fun _ wx => ∃ (vs1 : Value) (gs1 : Nat → Prop), Hid (RdV wx x vs1 (.slice Ap ep.length cp) (es ++ ep.take Kn) ep { R with sure := prs (es ++ ep.take Kn) } gs1) ∧ Hid (Frame gs w wx) ∧ Hid (∀ i, gs1 i → gs i ∨ w.heap.size ≤ i))
  case first =>
    go_wp2_with fail
    go_loopw [6] (fun s6 wr => ∃ (k : Nat) (vs1 : Value) (gs1 : Nat → Prop), k ≤ ep.length ∧ s6 = .int .i64 k ∧ Hid (RdV wr x vs1 (.slice Ap ep.length cp) (es ++ ep.take (min k Kn)) ep { R with sure := prs (es ++ ep.take (min k Kn)) } gs1) ∧ Hid (Frame gs w wr) ∧ Hid (∀ i, gs1 i → gs i ∨ w.heap.size ≤ i)) (fun s6 _ => ep.length - (intOf s6).toNat)
    case atStart => exact ⟨0, vs, gs, Nat.zero_le _, rfl, Lib.hid (by rw [Nat.zero_min, List.take_zero, List.append_nil, ← HS0.out]; exact H.out), Lib.hid (Frame.refl _ _), Lib.hid (fun _ h => .inl h)⟩
    case round =>
      obtain ⟨k, vs1, gs1, hk, rfl, HR, HFR, HGS⟩ := hrel
      have c2 : wr.cell? ⟨x, 2, none⟩ = some (.slice Ap ep.length cp) := (blk_cell HR.out.blk 2).trans rfl
      by_cases hlt : k < ep.length
      · by_cases hlk : (k : Int) ≤ keep
        · by_cases hl2 : (k : Int) < keep
          · have hkK : k < Kn := by rw [HK.out]; unfold clampN; omega
            have hmin : min k Kn = k := by omega
            rw [hmin] at HR
            obtain ⟨gp, cap, hvf, _⟩ := own_form HR.out.pe (by omega)
            injection hvf with q1 q2 q3
            subst q1
            obtain ⟨r0, r1⟩ := EsAt.at_ HR.out.pe hlt
            have htk := List.take_succ_eq_append_getElem hlt
            have HMEM : Hid (ep[k] ∈ ep) := Lib.hid (List.getElem_mem hlt)
            generalize ep[k] = q at *
            have HQ : Hid (EnAt wr q) := Lib.hid (HR.out.en q (by simp [HMEM.out]))
            have c1 : wr.cell? ⟨x, 1, none⟩ = some vs1 := (blk_cell HR.out.blk 1).trans rfl
            have HD1 : Hid (RdV wr.drew x vs1 (.slice (some ⟨gp, 0, none⟩) ep.length cp) (es ++ ep.take k) ep { R with sure := prs (es ++ ep.take k) } gs1) := Lib.hid (HR.out.keep (fun _ _ => rfl))
            have HQ1 : Hid (EnAt wr.drew q) := Lib.hid (HQ.out.keep (fun _ _ => rfl))
            have HLB1 : Hid (((es ++ ep.take k).length + 1) * 32 ≤ 140737488355328) := Lib.hid (by have := HLB.out; rw [List.length_append, List.length_take]; omega)
            have HTK := Lib.hid htk
            have HLES : Hid ((es ++ ep.take k).length = es.length + k) := Lib.hid (by rw [List.length_append, List.length_take]; omega)
            clear htk
            go_wp2
            -- W4
            refine start_ (n := 17) (S := fun w' => w'.cell? ⟨x, 1, none⟩ = some vs1 ∧ w'.cell? ⟨x, 2, none⟩ = some (.slice (some ⟨gp, 0, none⟩) ep.length cp) ∧ w'.cell? ⟨gp, k * 2, none⟩ = some (.int .i64 q.at_) ∧ w'.cell? ⟨gp, k * 2 + 1, none⟩ = some q.v) (ds := [13, 16]) #[false, false, false, false, false, false, false, false, false, false, false, false, false, false, false, false, false] (by kernel_rfl) rfl rfl ⟨c1, c2, r0, r1⟩ (fun hHeld => ?_)
            refine pure_ (i := 0) (N := some 27) (v := ?_) (a' := ?_) #[true, false, false, false, false, false, false, false, false, false, false, false, false, false, false, false, false] rfl rfl (by kernel_rfl) (fun _ _ _ h => h) (Or.inl ⟨by rfl, ?_⟩) ?_ ?_
            rotate_left
            · intro w'
              go_simp
              with_reducible rfl
            rotate_left
            · simp only [Act.put, List.setIfInBounds_toArray, List.set_cons_zero, List.set_cons_succ, i64_w, i32_w]
              rfl
            refine pure_ (i := 1) (N := some 28) (v := ?_) (a' := ?_) #[true, true, false, false, false, false, false, false, false, false, false, false, false, false, false, false, false] rfl rfl (by kernel_rfl) (fun _ _ _ h => h) (Or.inl ⟨by rfl, ?_⟩) ?_ ?_
            rotate_left
            · intro w'
              go_simp
              with_reducible rfl
            rotate_left
            · simp only [Act.put, List.setIfInBounds_toArray, List.set_cons_zero, List.set_cons_succ, i64_w, i32_w]
              rfl
            refine pure_ (i := 2) (N := some 29) (v := ?_) (a' := ?_) #[true, true, true, false, false, false, false, false, false, false, false, false, false, false, false, false, false] rfl rfl (by kernel_rfl) (fun _ _ _ h => h) (Or.inl ⟨by rfl, ?_⟩) ?_ ?_
            rotate_left
            · intro w'
              go_simp
              with_reducible rfl
            rotate_left
            · simp only [Act.put, List.setIfInBounds_toArray, List.set_cons_zero, List.set_cons_succ, i64_w, i32_w]
              rfl
            refine pure_ (i := 3) (N := some 30) (v := ?_) (a' := ?_) #[true, true, true, true, false, false, false, false, false, false, false, false, false, false, false, false, false] rfl rfl (by kernel_rfl) (fun _ _ _ h => h) (Or.inl ⟨by rfl, ?_⟩) ?_ ?_
            rotate_left
            · intro w'
              go_simp
              with_reducible rfl
            rotate_left
            · simp only [Act.put, List.setIfInBounds_toArray, List.set_cons_zero, List.set_cons_succ, i64_w, i32_w]
              rfl
            refine pure_ (i := 5) (N := some 32) (v := ?_) (a' := ?_) #[true, true, true, true, false, true, false, false, false, false, false, false, false, false, false, false, false] rfl rfl (by kernel_rfl) (fun _ _ _ h => h) (Or.inl ⟨by rfl, ?_⟩) ?_ ?_
            rotate_left
            · intro w'
              go_simp
              with_reducible rfl
            rotate_left
            · simp only [Act.put, List.setIfInBounds_toArray, List.set_cons_zero, List.set_cons_succ, i64_w, i32_w]
              rfl
            refine pure_ (i := 6) (N := some 33) (v := ?_) (a' := ?_) #[true, true, true, true, false, true, true, false, false, false, false, false, false, false, false, false, false] rfl rfl (by kernel_rfl) (fun _ _ _ h => h) (Or.inl ⟨by rfl, ?_⟩) ?_ ?_
            rotate_left
            · intro w'
              go_simp
              with_reducible rfl
            rotate_left
            · simp only [Act.put, List.setIfInBounds_toArray, List.set_cons_zero, List.set_cons_succ, i64_w, i32_w]
              rfl
            refine pure_ (i := 7) (N := some 34) (v := ?_) (a' := ?_) #[true, true, true, true, false, true, true, true, false, false, false, false, false, false, false, false, false] rfl rfl (by kernel_rfl) (fun _ _ _ h => h) (Or.inl ⟨by rfl, ?_⟩) ?_ ?_
            rotate_left
            · intro w'
              go_simp
              with_reducible rfl
            rotate_left
            · simp only [Act.put, List.setIfInBounds_toArray, List.set_cons_zero, List.set_cons_succ, i64_w, i32_w]
              rfl
            refine pure_ (i := 9) (N := some 36) (v := ?_) (a' := ?_) #[true, true, true, true, false, true, true, true, false, true, false, false, false, false, false, false, false] rfl rfl (by kernel_rfl) (fun _ _ _ h => h) (Or.inl ⟨by rfl, ?_⟩) ?_ ?_
            rotate_left
            · intro w'
              go_simp
              with_reducible rfl
            rotate_left
            · simp only [Act.put, List.setIfInBounds_toArray, List.set_cons_zero, List.set_cons_succ, i64_w, i32_w]
              rfl
            refine take_ (i := 4) (N := some 31) (v := ?_) (a' := ?_) #[true, true, true, true, true, true, true, true, false, true, false, false, false, false, false, false, false] rfl rfl (by kernel_rfl) (fun _ _ _ h => h) (Or.inl ⟨by rfl, ?_⟩) hHeld ?_ ?_
            rotate_left
            · rintro w' ⟨s0, s1, s2, s3⟩
              go_simp
              with_reducible rfl
            rotate_left
            · simp only [Act.put, List.setIfInBounds_toArray, List.set_cons_zero, List.set_cons_succ, i64_w, i32_w]
              rfl
            refine take_ (i := 8) (N := some 35) (v := ?_) (a' := ?_) #[true, true, true, true, true, true, true, true, true, true, false, false, false, false, false, false, false] rfl rfl (by kernel_rfl) (fun _ _ _ h => h) (Or.inl ⟨by rfl, ?_⟩) hHeld ?_ ?_
            rotate_left
            · rintro w' ⟨s0, s1, s2, s3⟩
              go_simp
              with_reducible rfl
            rotate_left
            · simp only [Act.put, List.setIfInBounds_toArray, List.set_cons_zero, List.set_cons_succ, i64_w, i32_w]
              rfl
            refine pure_ (i := 10) (N := some 37) (v := ?_) (a' := ?_) #[true, true, true, true, true, true, true, true, true, true, true, false, false, false, false, false, false] rfl rfl (by kernel_rfl) (fun _ _ _ h => h) (Or.inl ⟨by rfl, ?_⟩) ?_ ?_
            rotate_left
            · intro w'
              go_simp
              with_reducible rfl
            rotate_left
            · simp only [Act.put, List.setIfInBounds_toArray, List.set_cons_zero, List.set_cons_succ, i64_w, i32_w]
              rfl
            refine take_ (i := 11) (N := some 38) (v := ?_) (a' := ?_) #[true, true, true, true, true, true, true, true, true, true, true, true, false, false, false, false, false] rfl rfl (by kernel_rfl) (fun _ _ _ h => h) (Or.inl ⟨by rfl, ?_⟩) hHeld ?_ ?_
            rotate_left
            · rintro w' ⟨s0, s1, s2, s3⟩
              go_simp
              with_reducible rfl
            rotate_left
            · simp only [Act.put, List.setIfInBounds_toArray, List.set_cons_zero, List.set_cons_succ, i64_w, i32_w]
              rfl
            refine one_ (i := 12) (N := some 39) #[true, true, true, true, true, true, true, true, true, true, true, true, true, false, false, false, false] rfl rfl (by kernel_rfl) (by decide) (fun K hK => ?_)
            refine value_ (w1 := ?_) (v := ?_) (by rfl) rfl ?_ ?_
            rotate_left 2
            · go_simp
              constructor
              · rfl
              · rfl
            refine hK.out _ _ ⟨pw_cell_below (below_first _) c1, pw_cell_below (below_first _) c2, pw_cell_below (below_first _) r0, pw_cell_below (below_first _) r1⟩ (fun hHeld => ?_)
            clear hK K
            refine norm_ (a' := ?_) ?_ ?_
            rotate_left
            · show Act.put _ (some 39) _ = _
              simp only [Act.put, List.setIfInBounds_toArray, List.set_cons_zero, List.set_cons_succ, i64_w, i32_w]
              rfl
            refine last_ (i := 13) (N := some 40) #[true, true, true, true, true, true, true, true, true, true, true, true, true, true, false, false, false] rfl rfl (by kernel_rfl) (by decide) (fun K hK => ?_)
            refine step_append_cells (W := wr.drew) 0 (by rfl) _ _ 81 92 (.agg #[.int .i64 0, .slice none 0 0]) 2 32 (by rfl) Try.underlying81 infoWr28 rfl (by decide) (by decide) vs1 (es ++ ep.take k).length ((es ++ ep.take k).flatMap ecells) (ecells q) (by rfl) (by rfl) rfl HQ1.out.one HD1.out.se (Below.refl _ _) (Nat.zero_le _) HLB1.out ?_
            intro v1 w3 hO3 _ hG3 hA3
            obtain ⟨A1, n1, hv⟩ := own_slice hO3
            rw [HLES.out] at hv
            subst hv
            have hb3 := (hG3.block x (blk_lt HD1.out.blk) HD1.out.xne.1).trans HD1.out.blk
            have e1 : w3.cell? ⟨x, 1, none⟩ = some vs1 := (blk_cell hb3 1).trans rfl
            have f1 := blk_frozen hb3 1
            have HO3 := Lib.hid hO3
            have HG3 := Lib.hid hG3
            have HA3 := Lib.hid hA3
            clear hO3 hG3 hA3 hb3
            refine hK.out _ _ ?_
            clear hK K
            refine norm_ (a' := ?_) ?_ ?_
            rotate_left
            · show Act.put _ (some 40) _ = _
              simp only [Act.put, List.setIfInBounds_toArray, List.set_cons_zero, List.set_cons_succ, i64_w, i32_w]
              rfl
            refine pure_ (i := 14) (N := some 41) (v := ?_) (a' := ?_) #[true, true, true, true, true, true, true, true, true, true, true, true, true, true, true, false, false] rfl rfl (by kernel_rfl) (fun _ _ _ h => h) (Or.inl ⟨by rfl, ?_⟩) ?_ ?_
            rotate_left
            · intro w'
              go_simp
              with_reducible rfl
            rotate_left
            · simp only [Act.put, List.setIfInBounds_toArray, List.set_cons_zero, List.set_cons_succ, i64_w, i32_w]
              rfl
            refine pure_ (i := 15) (N := some 42) (v := ?_) (a' := ?_) #[true, true, true, true, true, true, true, true, true, true, true, true, true, true, true, true, false] rfl rfl (by kernel_rfl) (fun _ _ _ h => h) (Or.inl ⟨by rfl, ?_⟩) ?_ ?_
            rotate_left
            · intro w'
              go_simp
              with_reducible rfl
            rotate_left
            · simp only [Act.put, List.setIfInBounds_toArray, List.set_cons_zero, List.set_cons_succ, i64_w, i32_w]
              rfl
            refine last_ (i := 16) (N := none) #[true, true, true, true, true, true, true, true, true, true, true, true, true, true, true, true, true] rfl rfl (by kernel_rfl) (by decide) (fun K hK => ?_)
            refine skip_ (w1 := ?_) (by rfl) rfl ?_ ?_
            rotate_left
            · go_simp
              rfl
            refine hK.out _ _ ?_
            clear hK K
            refine done_ (by kernel_rfl) ?_
            -- ENDW4
            go_wp2
            have HD4 := HD1.out.sured HQ1.out HO3.out HG3.out HA3.out
            have hmin2 : min (k + 1) Kn = k + 1 := by omega
            have hes : (es ++ ep.take k) ++ [q] = es ++ ep.take (k + 1) := by rw [List.append_assoc, HTK.out]
            have HN := RdV.sured_new (hs := gs) (B := w.heap.size) HD1.out HA3.out HGS.out (by have := HFR.out.size; exact this) (E := q) (fun j hj => HGS.out j ((HR.out.foot j).2 (.inr (.inr (.inr ⟨q, by simp [HMEM.out], hj⟩)))))
            rw [hes] at HD4 HN
            have hpr : prs (es ++ ep.take k) ++ [(q.at_, q.xs)] = prs (es ++ ep.take (k + 1)) := by rw [← hes, prs_append (es ++ ep.take k)]; rfl
            have HD5 : Hid (RdV (w3.setCell ⟨x, 1, none⟩ (.slice A1 (es.length + k + 1) n1)) x (.slice A1 (es.length + k + 1) n1) (.slice (some ⟨gp, 0, none⟩) ep.length cp) (es ++ ep.take (min (k + 1) Kn)) ep { R with sure := prs (es ++ ep.take (min (k + 1) Kn)) } _) := Lib.hid (by
              rw [hmin2, ← hpr]
              exact HD4)
            have HFF : Hid (Frame gs w (w3.setCell ⟨x, 1, none⟩ (.slice A1 (es.length + k + 1) n1))) := Lib.hid (Frame.setCell (Frame.grown HFR.out.drew HG3.out (fun j hj => HGS.out j ((HR.out.foot j).2 (.inr (.inl hj))))) (.inl H.out.self) _)
            have HNN := Lib.hid HN
            clear HD4 HN hes hpr hmin2
            go_roundw
            case rel => exact ⟨k + 1, _, _, by omega, by go_num, HD5, HFF, HNN⟩
            case measure => simp [intOf]; omega
          · obtain rfl : keep = (k : Int) := by omega
            have hmin : min (k + 1) Kn = min k Kn := by rw [HK.out]; unfold clampN; omega
            have HR2 := Lib.hid HR.out
            rw [← hmin] at HR2
            clear hmin
            go_wp2
            go_roundw
            case rel => exact ⟨k + 1, vs1, gs1, by omega, by go_num, HR2, HFR, HGS⟩
            case measure => simp [intOf]; omega
        · have hmin : min k Kn = Kn := by rw [HK.out]; unfold clampN; omega
          rw [hmin] at HR
          go_wp2
          go_meet
          exact ⟨vs1, gs1, HR, HFR, HGS⟩
      · obtain rfl : k = ep.length := by omega
        have hmin : min ep.length Kn = Kn := Nat.min_eq_right HKL.out
        rw [hmin] at HR
        go_wp2
        go_meet
        exact ⟨vs1, gs1, HR, HFR, HGS⟩
  case rest =>
    obtain ⟨vs1, gs1, HR, HFR, HGS⟩ := hcut
    go_upto_if 44 with fail
    go_cut [1] from 43 to 44 (fun s1 wx => s1 = .int .i64 (mx keep 0) ∧ wc = wx)
    case first =>
      by_cases hk0 : keep < 0
      · go_wp2_with fail
        go_meet
        exact ⟨by unfold mx; rw [if_pos hk0], rfl⟩
      · go_wp2_with fail
        go_meet
        exact ⟨by unfold mx; rw [if_neg (by omega)], rfl⟩
    case rest =>
      obtain ⟨rfl, rfl⟩ := hcut
      obtain ⟨K1, hK1⟩ : ∃ K1 : Nat, mx keep 0 = (K1 : Int) := ⟨(mx keep 0).toNat, by unfold mx; split <;> omega⟩
      have hKK : Kn = min K1 ep.length := by rw [HK.out]; unfold clampN; unfold mx at hK1; split at hK1 <;> omega
      rw [hK1]
      have c2 : wc.cell? ⟨x, 2, none⟩ = some (.slice Ap ep.length cp) := (blk_cell HR.out.blk 2).trans rfl
      have z2 := blk_frozen HR.out.blk 2
      have z3 := blk_frozen HR.out.blk 3
      have c3 : wc.cell? ⟨x, 3, none⟩ = some (.int .i64 R.after) := (blk_cell HR.out.blk 3).trans rfl
      clear hK1
      by_cases hlt : K1 < ep.length
      · obtain rfl : Kn = K1 := by omega
        clear hKK
        obtain ⟨gp, cap, hvf, _⟩ := own_form HR.out.pe (by omega)
        injection hvf with q1 q2 q3
        subst q1
        obtain ⟨r0, r1⟩ := EsAt.at_ HR.out.pe hlt
        have HMEM : Hid (ep[Kn] ∈ ep) := Lib.hid (List.getElem_mem hlt)
        have HGE : Hid (ep[Kn]? = some ep[Kn]) := Lib.hid (List.getElem?_eq_getElem hlt)
        generalize ep[Kn] = q at *
        have HQ : Hid (EnAt wc q) := Lib.hid (HR.out.en q (by simp [HMEM.out]))
        obtain ⟨g, cg, hgv, _, _, _⟩ := HQ.out.form
        have HQV := Lib.hid hgv
        rw [hgv] at r1
        clear hgv
        have hpe : (prs ep)[Kn]? = some (q.at_, q.xs) := by
          unfold prs
          rw [List.getElem?_map, HGE.out]; rfl
        have c1 : wc.cell? ⟨x, 1, none⟩ = some vs1 := (blk_cell HR.out.blk 1).trans rfl
        have HBa : Hid (Below wc.heap.size wc (((wc.alloc (.cells #[.int .i64 q.at_, .slice (some ⟨g, 0, none⟩) 256 cg] 92)).alloc (.cells (madeCells #[.int .u8 0] 256) 5)).drew)) := Lib.hid (b_drew (((Below.refl _ _).alloc (Nat.le_refl _) _).alloc (by simp) _))
        have HRa := Lib.hid (HR.out.below HBa.out)
        have HM := Lib.hid (ORow.drew (made256 (wc.alloc (.cells #[.int .i64 q.at_, .slice (some ⟨g, 0, none⟩) 256 cg] 92))))
        have hsz1 : (wc.alloc (.cells #[.int .i64 q.at_, .slice (some ⟨g, 0, none⟩) 256 cg] 92)).heap.size = wc.heap.size + 1 := by simp
        rw [hsz1] at HM
        have HL1 := Lib.hid (fun vb => last_any (es ++ ep.take Kn) vs1 q.at_ vb _ HRa.out.se)
        have hr1 := HRa.out.last_sure q.at_ HM.out z256_blk
        have HC := Lib.hid (copy_row hr1.1 hr1.2)
        have HXX := Lib.hid hr1.2
        obtain ⟨ba, hba⟩ : ∃ b, nowP (prs (es ++ ep.take Kn)) q.at_ z256 = b := ⟨_, rfl⟩
        simp only at HC HXX
        rw [hba] at HC HXX
        obtain ⟨T, hT⟩ : ∃ T, T = clampN torn 256 := ⟨_, rfl⟩
        have HT := Lib.hid hT
        have HT256 : Hid (T ≤ 256) := Lib.hid (by rw [hT]; exact clampN_le _ _)
        have HE : Hid (crashR R keep torn = { { R with sure := prs (es ++ ep.take Kn) ++ [(q.at_, tornB T q.xs ba)] } with pend := [], after := -1 }) := Lib.hid (by
          unfold crashR
          have hl : R.pend.length = ep.length := by rw [HP0.out]; simp [prs]
          rw [hl, ← HK.out, ← hT, crashL_at _ _ _ _ (q.at_, q.xs) (by rw [HP0.out]; exact hpe), HS0.out, HP0.out, ← prs_take, ← prs_append, hba])
        have HQ0 : Hid ((wc.alloc (.cells #[.int .i64 q.at_, .slice (some ⟨g, 0, none⟩) 256 cg] 92)).heap[wc.heap.size]? = some (.cells #[.int .i64 q.at_, .slice (some ⟨g, 0, none⟩) 256 cg] 92 (0, 0))) := Lib.hid (heap_alloc_last wc _)
        have a1 : (wc.alloc (.cells #[.int .i64 q.at_, .slice (some ⟨g, 0, none⟩) 256 cg] 92)).cell? ⟨x, 1, none⟩ = some vs1 := pw_cell_below (below_first _) c1
        have a0 : (wc.alloc (.cells #[.int .i64 q.at_, .slice (some ⟨g, 0, none⟩) 256 cg] 92)).cell? ⟨wc.heap.size, 0, none⟩ = some (.int .i64 q.at_) := (blk_cell HQ0.out 0).trans rfl
        clear hba hT hpe hr1 HM hsz1
        go_wp2
        -- W9
        refine start_ (n := 10) (S := fun w' => w'.cell? ⟨x, 1, none⟩ = some vs1 ∧ w'.cell? ⟨wc.heap.size, 0, none⟩ = some (.int .i64 q.at_)) (ds := []) #[false, false, false, false, false, false, false, false, false, false] (by kernel_rfl) rfl rfl ⟨a1, a0⟩ (fun hHeld => ?_)
        refine pure_ (i := 0) (N := some 59) (v := ?_) (a' := ?_) #[true, false, false, false, false, false, false, false, false, false] rfl rfl (by kernel_rfl) (fun _ _ _ h => h) (Or.inl ⟨by rfl, ?_⟩) ?_ ?_
        rotate_left
        · intro w'
          go_simp
          with_reducible rfl
        rotate_left
        · simp only [Act.put, List.setIfInBounds_toArray, List.set_cons_zero, List.set_cons_succ, i64_w, i32_w]
          rfl
        refine pure_ (i := 1) (N := some 60) (v := ?_) (a' := ?_) #[true, true, false, false, false, false, false, false, false, false] rfl rfl (by kernel_rfl) (fun _ _ _ h => h) (Or.inl ⟨by rfl, ?_⟩) ?_ ?_
        rotate_left
        · intro w'
          go_simp
          with_reducible rfl
        rotate_left
        · simp only [Act.put, List.setIfInBounds_toArray, List.set_cons_zero, List.set_cons_succ, i64_w, i32_w]
          rfl
        refine pure_ (i := 2) (N := some 61) (v := ?_) (a' := ?_) #[true, true, true, false, false, false, false, false, false, false] rfl rfl (by kernel_rfl) (fun _ _ _ h => h) (Or.inl ⟨by rfl, ?_⟩) ?_ ?_
        rotate_left
        · intro w'
          go_simp
          with_reducible rfl
        rotate_left
        · simp only [Act.put, List.setIfInBounds_toArray, List.set_cons_zero, List.set_cons_succ, i64_w, i32_w]
          rfl
        refine pure_ (i := 4) (N := some 63) (v := ?_) (a' := ?_) #[true, true, true, false, true, false, false, false, false, false] rfl rfl (by kernel_rfl) (fun _ _ _ h => h) (Or.inl ⟨by rfl, ?_⟩) ?_ ?_
        rotate_left
        · intro w'
          go_simp
          with_reducible rfl
        rotate_left
        · simp only [Act.put, List.setIfInBounds_toArray, List.set_cons_zero, List.set_cons_succ, i64_w, i32_w]
          rfl
        refine take_ (i := 3) (N := some 62) (v := ?_) (a' := ?_) #[true, true, true, true, true, false, false, false, false, false] rfl rfl (by kernel_rfl) (fun _ _ _ h => h) (Or.inl ⟨by rfl, ?_⟩) hHeld ?_ ?_
        rotate_left
        · rintro w' ⟨s0, s1⟩
          go_simp
          with_reducible rfl
        rotate_left
        · simp only [Act.put, List.setIfInBounds_toArray, List.set_cons_zero, List.set_cons_succ, i64_w, i32_w]
          rfl
        refine take_ (i := 5) (N := some 64) (v := ?_) (a' := ?_) #[true, true, true, true, true, true, false, false, false, false] rfl rfl (by kernel_rfl) (fun _ _ _ h => h) (Or.inl ⟨by rfl, ?_⟩) hHeld ?_ ?_
        rotate_left
        · rintro w' ⟨s0, s1⟩
          go_simp
          with_reducible rfl
        rotate_left
        · simp only [Act.put, List.setIfInBounds_toArray, List.set_cons_zero, List.set_cons_succ, i64_w, i32_w]
          rfl
        refine one_ (i := 6) (N := some 65) #[true, true, true, true, true, true, true, false, false, false] rfl rfl (by kernel_rfl) (by decide) (fun K hK => ?_)
        refine value_ (w1 := ?_) (v := ?_) (by rfl) rfl ?_ ?_
        rotate_left 2
        · go_simp
          constructor
          · rfl
          · rfl
        refine hK.out _ _ ⟨(blk_cell HRa.out.blk 1).trans rfl, pw_cell_below (below_first _) a0⟩ (fun hHeld => ?_)
        clear hK K
        refine norm_ (a' := ?_) ?_ ?_
        rotate_left
        · show Act.put _ (some 65) _ = _
          simp only [Act.put, List.setIfInBounds_toArray, List.set_cons_zero, List.set_cons_succ, i64_w, i32_w]
          rfl
        refine one_ (i := 7) (N := some 66) #[true, true, true, true, true, true, true, true, false, false] rfl rfl (by kernel_rfl) (by decide) (fun K hK => ?_)
        refine goes_ Try.func53 (by kernel_rfl) rfl #[vs1, .int .i64 q.at_, .slice (some ⟨wc.heap.size + 1, 0, none⟩) 256 256] (by rfl) rfl rfl (by simp only [List.map_toArray, List.map_cons, List.map_nil] <;> rfl) ?_
        with_reducible refine (HL1.out _).mono ?_
        rintro e w4 ⟨rfl, rfl⟩
        refine ⟨_, rfl, ?_⟩
        refine hK.out _ _ ⟨(blk_cell HRa.out.blk 1).trans rfl, pw_cell_below (below_first _) a0⟩ (fun hHeld => ?_)
        clear hK K
        refine norm_ (a' := ?_) ?_ ?_
        rotate_left
        · show Act.put _ (some 66) _ = _
          simp only [Act.put, List.setIfInBounds_toArray, List.set_cons_zero, List.set_cons_succ, i64_w, i32_w]
          rfl
        refine one_ (i := 8) (N := some 67) #[true, true, true, true, true, true, true, true, true, false] rfl rfl (by kernel_rfl) (by decide) (fun K hK => ?_)
        refine goes_ Try.func35 (by kernel_rfl) rfl #[lastE (es ++ ep.take Kn) q.at_ (.slice (some ⟨wc.heap.size + 1, 0, none⟩) 256 256)] (by rfl) rfl rfl (by simp only [List.map_toArray, List.map_cons, List.map_nil] <;> rfl) ?_
        with_reducible refine (HC.out).mono ?_
        rintro e w5 ⟨vc, rfl, hO, hB⟩
        refine ⟨_, rfl, ?_⟩
        have HX5 := Lib.hid (below_then HBa.out HBa.out.size hB)
        have HD5 := Lib.hid (HR.out.below HX5.out)
        obtain ⟨gc, nc, hvc, hnc⟩ := own_form hO (by rw [HXX.out.1]; decide)
        rw [HXX.out.1] at hvc
        subst hvc
        have HGC : Hid (wc.heap.size + 1 < gc) := Lib.hid (by have h0 := own_base hO gc rfl; simp at h0; omega)
        have HO5 := Lib.hid hO
        have HQ5 := Lib.hid ((hB.block wc.heap.size (by simp; omega)).trans (blk_alloc HQ0.out (.cells (madeCells #[.int .u8 0] 256) 5)))
        have c51 : w5.cell? ⟨x, 1, none⟩ = some vs1 := (blk_cell HD5.out.blk 1).trans rfl
        have c50 : w5.cell? ⟨wc.heap.size, 0, none⟩ = some (.int .i64 q.at_) := (blk_cell HQ5.out 0).trans rfl
        clear hO hB hnc
        refine hK.out _ _ ⟨c51, c50⟩ (fun hHeld => ?_)
        clear hK K
        refine norm_ (a' := ?_) ?_ ?_
        rotate_left
        · show Act.put _ (some 67) _ = _
          simp only [Act.put, List.setIfInBounds_toArray, List.set_cons_zero, List.set_cons_succ, i64_w, i32_w]
          rfl
        refine pure_ (i := 9) (N := some 8) (v := ?_) (a' := ?_) #[true, true, true, true, true, true, true, true, true, true] rfl rfl (by kernel_rfl) (fun _ _ _ h => h) (Or.inl ⟨by rfl, ?_⟩) ?_ ?_
        rotate_left
        · intro w'
          go_simp
          with_reducible rfl
        rotate_left
        · simp only [Act.put, List.setIfInBounds_toArray, List.set_cons_zero, List.set_cons_succ, i64_w, i32_w]
          rfl
        refine done_ (by kernel_rfl) ?_
        -- ENDW9
        have HEQ5 : Hid (EnAt w5 q) := Lib.hid (HQ.out.keep (fun j hj => HX5.out.block j (own_lt HQ.out.1 j hj)))
        have HGL : Hid (∀ j, gs1 j → j < wc.heap.size) := Lib.hid (fun j hj => HR.out.lt j hj)
        have hgw : g < wc.heap.size := own_lt HQ.out.1 g (by rw [HQV.out]; rfl)
        have HNG : Hid (g ≠ gc ∧ wc.heap.size ≠ gc) := Lib.hid ⟨by have := HGC.out; omega, by have := HGC.out; omega⟩
        clear hgw
        go_upto_block 2 with fail
        go_cut [9] from 68 to 84 (fun _ wx => Hid (ORow .u8 5 wx 0 (.slice (some ⟨gc, 0, none⟩) 256 nc) (tornB T q.xs ba)) ∧ Hid (Frame (fun j => j = gc) w5 wx))
        case first =>
          go_wp2_with fail
          go_loopw [9] (fun s9 wr => ∃ j : Nat, j ≤ T ∧ s9 = .int .i64 j ∧ Hid (ORow .u8 5 wr 0 (.slice (some ⟨gc, 0, none⟩) 256 nc) (tornB j q.xs ba)) ∧ Hid (Frame (fun j => j = gc) w5 wr)) (fun s9 _ => T - (intOf s9).toNat)
          case atStart => exact ⟨0, Nat.zero_le _, rfl, Lib.hid (HO5.out.lower (Nat.zero_le _)), Lib.hid (Frame.refl _ _)⟩
          case round =>
            obtain ⟨j, hj, rfl, HO, HF⟩ := hrel
            by_cases h256 : j < 256
            · by_cases htn : (j : Int) < torn
              · have hjT : j < T := by rw [HT.out]; unfold clampN; omega
                have HQJ : Hid (wr.heap[wc.heap.size]? = some (.cells #[.int .i64 q.at_, .slice (some ⟨g, 0, none⟩) 256 cg] 92 (0, 0))) := Lib.hid ((HF.out.block _ (blk_lt HQ5.out) HNG.out.2).trans HQ5.out)
                have k1 : wr.cell? ⟨wc.heap.size, 1, none⟩ = some (.slice (some ⟨g, 0, none⟩) 256 cg) := (blk_cell HQJ.out 1).trans rfl
                have hEj : EnAt wr q := HEQ5.out.keep (fun i hi => HF.out.block i (own_lt HEQ5.out.1 i hi) (fun e => HNG.out.1 (by rw [HQV.out] at hi; have hi2 : some g = some i := hi; injection hi2 with hi2; omega)))
                have hOj := hEj.1
                rw [HQV.out] at hOj
                obtain ⟨y1, _⟩ := row_byte hOj j (by rw [hEj.2.1]; exact h256)
                have hlt2 : (tornB j q.xs ba).length = 256 := (tornB_blk hEj.2 HXX.out (by omega)).1
                obtain ⟨t1, t2⟩ := row_byte HO.out j (by rw [hlt2]; exact h256)
                have HSET := Lib.hid (row_put HO.out hlt2.symm j (rd q.xs (j : Int)))
                have hsu := tornB_succ j q.xs ba (by rw [hEj.2.1]; exact h256) (by rw [hEj.2.1, HXX.out.1])
                rw [hsu] at HSET
                clear hsu hlt2 hOj hEj
                generalize rd q.xs (j : Int) = uj at *
                generalize rd (tornB j q.xs ba) (j : Int) = ut at *
                go_wp2
                go_roundw
                case rel => exact ⟨j + 1, by omega, by go_num, HSET, Lib.hid (Frame.setCell HF.out (.inl rfl) _)⟩
                case measure => simp [intOf]; omega
              · obtain rfl : j = T := by have := HT.out; unfold clampN at this; omega
                go_wp2
                go_meet
                exact ⟨HO, HF⟩
            · obtain rfl : j = T := by have := HT256.out; omega
              go_wp2
              go_meet
              exact ⟨HO, HF⟩
        case rest =>
          obtain ⟨HO, HF⟩ := hcut
          rename World => wd
          have HD8 : Hid (RdV wd.drew x vs1 (.slice (some ⟨gp, 0, none⟩) ep.length cp) (es ++ ep.take Kn) ep { R with sure := prs (es ++ ep.take Kn) } gs1) := Lib.hid (RdV.keep (w := wd) (HD5.out.keep (fun j hj => HF.out.block j (HD5.out.lt j hj) (by have := HGL.out j hj; have := HGC.out; omega))) (fun _ _ => rfl))
          have HE8 : Hid (EnAt wd.drew ⟨q.at_, .slice (some ⟨gc, 0, none⟩) 256 nc, tornB T q.xs ba⟩) := Lib.hid ⟨HO.out, tornB_blk HQ.out.2 HXX.out HT256.out⟩
          have HQ8 : Hid (wd.heap[wc.heap.size]? = some (.cells #[.int .i64 q.at_, .slice (some ⟨g, 0, none⟩) 256 cg] 92 (0, 0))) := Lib.hid ((HF.out.block _ (blk_lt HQ5.out) HNG.out.2).trans HQ5.out)
          have b1 : wd.cell? ⟨x, 1, none⟩ = some vs1 := (blk_cell (w := wd) HD8.out.blk 1).trans rfl
          have b0 : wd.cell? ⟨wc.heap.size, 0, none⟩ = some (.int .i64 q.at_) := (blk_cell HQ8.out 0).trans rfl
          have HLES : Hid ((es ++ ep.take Kn).length = es.length + Kn) := Lib.hid (by rw [List.length_append, List.length_take]; omega)
          have HLB2 : Hid (((es ++ ep.take Kn).length + 1) * 32 ≤ 140737488355328) := Lib.hid (by have := HLB.out; rw [HLES.out]; omega)
          have hws : w.heap.size ≤ wd.drew.heap.size := Nat.le_trans HFR.out.size (Nat.le_trans HX5.out.size HF.out.size)
          have HWS := Lib.hid hws
          clear hws
          go_wp2
          -- W14
          refine start_ (n := 14) (S := fun w' => w'.cell? ⟨x, 1, none⟩ = some vs1 ∧ w'.cell? ⟨wc.heap.size, 0, none⟩ = some (.int .i64 q.at_)) (ds := [10, 13]) #[false, false, false, false, false, false, false, false, false, false, false, false, false, false] (by kernel_rfl) rfl rfl ⟨b1, b0⟩ (fun hHeld => ?_)
          refine pure_ (i := 0) (N := some 85) (v := ?_) (a' := ?_) #[true, false, false, false, false, false, false, false, false, false, false, false, false, false] rfl rfl (by kernel_rfl) (fun _ _ _ h => h) (Or.inl ⟨by rfl, ?_⟩) ?_ ?_
          rotate_left
          · intro w'
            go_simp
            with_reducible rfl
          rotate_left
          · simp only [Act.put, List.setIfInBounds_toArray, List.set_cons_zero, List.set_cons_succ, i64_w, i32_w]
            rfl
          refine pure_ (i := 1) (N := some 86) (v := ?_) (a' := ?_) #[true, true, false, false, false, false, false, false, false, false, false, false, false, false] rfl rfl (by kernel_rfl) (fun _ _ _ h => h) (Or.inl ⟨by rfl, ?_⟩) ?_ ?_
          rotate_left
          · intro w'
            go_simp
            with_reducible rfl
          rotate_left
          · simp only [Act.put, List.setIfInBounds_toArray, List.set_cons_zero, List.set_cons_succ, i64_w, i32_w]
            rfl
          refine pure_ (i := 2) (N := some 87) (v := ?_) (a' := ?_) #[true, true, true, false, false, false, false, false, false, false, false, false, false, false] rfl rfl (by kernel_rfl) (fun _ _ _ h => h) (Or.inl ⟨by rfl, ?_⟩) ?_ ?_
          rotate_left
          · intro w'
            go_simp
            with_reducible rfl
          rotate_left
          · simp only [Act.put, List.setIfInBounds_toArray, List.set_cons_zero, List.set_cons_succ, i64_w, i32_w]
            rfl
          refine pure_ (i := 3) (N := some 88) (v := ?_) (a' := ?_) #[true, true, true, true, false, false, false, false, false, false, false, false, false, false] rfl rfl (by kernel_rfl) (fun _ _ _ h => h) (Or.inl ⟨by rfl, ?_⟩) ?_ ?_
          rotate_left
          · intro w'
            go_simp
            with_reducible rfl
          rotate_left
          · simp only [Act.put, List.setIfInBounds_toArray, List.set_cons_zero, List.set_cons_succ, i64_w, i32_w]
            rfl
          refine pure_ (i := 5) (N := some 90) (v := ?_) (a' := ?_) #[true, true, true, true, false, true, false, false, false, false, false, false, false, false] rfl rfl (by kernel_rfl) (fun _ _ _ h => h) (Or.inl ⟨by rfl, ?_⟩) ?_ ?_
          rotate_left
          · intro w'
            go_simp
            with_reducible rfl
          rotate_left
          · simp only [Act.put, List.setIfInBounds_toArray, List.set_cons_zero, List.set_cons_succ, i64_w, i32_w]
            rfl
          refine pure_ (i := 7) (N := some 92) (v := ?_) (a' := ?_) #[true, true, true, true, false, true, false, true, false, false, false, false, false, false] rfl rfl (by kernel_rfl) (fun _ _ _ h => h) (Or.inl ⟨by rfl, ?_⟩) ?_ ?_
          rotate_left
          · intro w'
            go_simp
            with_reducible rfl
          rotate_left
          · simp only [Act.put, List.setIfInBounds_toArray, List.set_cons_zero, List.set_cons_succ, i64_w, i32_w]
            rfl
          refine take_ (i := 4) (N := some 89) (v := ?_) (a' := ?_) #[true, true, true, true, true, true, false, true, false, false, false, false, false, false] rfl rfl (by kernel_rfl) (fun _ _ _ h => h) (Or.inl ⟨by rfl, ?_⟩) hHeld ?_ ?_
          rotate_left
          · rintro w' ⟨s0, s1⟩
            go_simp
            with_reducible rfl
          rotate_left
          · simp only [Act.put, List.setIfInBounds_toArray, List.set_cons_zero, List.set_cons_succ, i64_w, i32_w]
            rfl
          refine take_ (i := 6) (N := some 91) (v := ?_) (a' := ?_) #[true, true, true, true, true, true, true, true, false, false, false, false, false, false] rfl rfl (by kernel_rfl) (fun _ _ _ h => h) (Or.inl ⟨by rfl, ?_⟩) hHeld ?_ ?_
          rotate_left
          · rintro w' ⟨s0, s1⟩
            go_simp
            with_reducible rfl
          rotate_left
          · simp only [Act.put, List.setIfInBounds_toArray, List.set_cons_zero, List.set_cons_succ, i64_w, i32_w]
            rfl
          refine pure_ (i := 8) (N := some 93) (v := ?_) (a' := ?_) #[true, true, true, true, true, true, true, true, true, false, false, false, false, false] rfl rfl (by kernel_rfl) (fun _ _ _ h => h) (Or.inl ⟨by rfl, ?_⟩) ?_ ?_
          rotate_left
          · intro w'
            go_simp
            with_reducible rfl
          rotate_left
          · simp only [Act.put, List.setIfInBounds_toArray, List.set_cons_zero, List.set_cons_succ, i64_w, i32_w]
            rfl
          refine one_ (i := 9) (N := some 94) #[true, true, true, true, true, true, true, true, true, true, false, false, false, false] rfl rfl (by kernel_rfl) (by decide) (fun K hK => ?_)
          refine value_ (w1 := ?_) (v := ?_) (by rfl) rfl ?_ ?_
          rotate_left 2
          · go_simp
            constructor
            · rfl
            · rfl
          refine hK.out _ _ ⟨pw_cell_below (below_first _) b1, pw_cell_below (below_first _) b0⟩ (fun hHeld => ?_)
          clear hK K
          refine norm_ (a' := ?_) ?_ ?_
          rotate_left
          · show Act.put _ (some 94) _ = _
            simp only [Act.put, List.setIfInBounds_toArray, List.set_cons_zero, List.set_cons_succ, i64_w, i32_w]
            rfl
          refine last_ (i := 10) (N := some 95) #[true, true, true, true, true, true, true, true, true, true, true, false, false, false] rfl rfl (by kernel_rfl) (by decide) (fun K hK => ?_)
          refine step_append_cells (W := wd.drew) 0 (by rfl) _ _ 81 92 (.agg #[.int .i64 0, .slice none 0 0]) 2 32 (by rfl) Try.underlying81 infoWr28 rfl (by decide) (by decide) vs1 (es ++ ep.take Kn).length ((es ++ ep.take Kn).flatMap ecells) (ecells ⟨q.at_, .slice (some ⟨gc, 0, none⟩) 256 nc, tornB T q.xs ba⟩) (by rfl) (by rfl) rfl HE8.out.one HD8.out.se (Below.refl _ _) (Nat.zero_le _) HLB2.out ?_
          intro v1 w9 hO3 _ hG3 hA3
          obtain ⟨A1, n1, hv⟩ := own_slice hO3
          rw [HLES.out] at hv
          subst hv
          have hb3 := (hG3.block x (blk_lt HD8.out.blk) HD8.out.xne.1).trans HD8.out.blk
          have e1 : w9.cell? ⟨x, 1, none⟩ = some vs1 := (blk_cell hb3 1).trans rfl
          have f1 := blk_frozen hb3 1
          have e2 : w9.cell? ⟨x, 2, none⟩ = some (.slice (some ⟨gp, 0, none⟩) ep.length cp) := (blk_cell hb3 2).trans rfl
          have f2 := blk_frozen hb3 2
          have e3 : w9.cell? ⟨x, 3, none⟩ = some (.int .i64 R.after) := (blk_cell hb3 3).trans rfl
          have f3 := blk_frozen hb3 3
          have HO9 := Lib.hid hO3
          have HG9 := Lib.hid hG3
          have HA9 := Lib.hid hA3
          clear hO3 hG3 hA3 hb3
          refine hK.out _ _ ?_
          clear hK K
          refine norm_ (a' := ?_) ?_ ?_
          rotate_left
          · show Act.put _ (some 95) _ = _
            simp only [Act.put, List.setIfInBounds_toArray, List.set_cons_zero, List.set_cons_succ, i64_w, i32_w]
            rfl
          refine pure_ (i := 11) (N := some 96) (v := ?_) (a' := ?_) #[true, true, true, true, true, true, true, true, true, true, true, true, false, false] rfl rfl (by kernel_rfl) (fun _ _ _ h => h) (Or.inl ⟨by rfl, ?_⟩) ?_ ?_
          rotate_left
          · intro w'
            go_simp
            with_reducible rfl
          rotate_left
          · simp only [Act.put, List.setIfInBounds_toArray, List.set_cons_zero, List.set_cons_succ, i64_w, i32_w]
            rfl
          refine pure_ (i := 12) (N := some 97) (v := ?_) (a' := ?_) #[true, true, true, true, true, true, true, true, true, true, true, true, true, false] rfl rfl (by kernel_rfl) (fun _ _ _ h => h) (Or.inl ⟨by rfl, ?_⟩) ?_ ?_
          rotate_left
          · intro w'
            go_simp
            with_reducible rfl
          rotate_left
          · simp only [Act.put, List.setIfInBounds_toArray, List.set_cons_zero, List.set_cons_succ, i64_w, i32_w]
            rfl
          refine last_ (i := 13) (N := none) #[true, true, true, true, true, true, true, true, true, true, true, true, true, true] rfl rfl (by kernel_rfl) (by decide) (fun K hK => ?_)
          refine skip_ (w1 := ?_) (by rfl) rfl ?_ ?_
          rotate_left
          · go_simp
            rfl
          refine hK.out _ _ ?_
          clear hK K
          refine done_ (by kernel_rfl) ?_
          -- ENDW14
          go_wp2
          go_end0
          have HD9 := HD8.out.sured HE8.out HO9.out HG9.out HA9.out
          have HN9 := RdV.sured_new (hs := gs) (B := w.heap.size) HD8.out HA9.out HGS.out HWS.out (E := ⟨q.at_, .slice (some ⟨gc, 0, none⟩) 256 nc, tornB T q.xs ba⟩) (fun j hj => .inr (by have := HGC.out; have := HFR.out.size; have hj2 : some gc = some j := hj; injection hj2 with hj2; omega))
          refine ⟨rfl, ?_⟩
          rw [HE.out]
          refine ⟨_, ⟨_, _, _, [], HD9.ended, ?_⟩, ?_, HD9.ended_new HN9⟩
          · rw [List.append_nil]
            refine own_sub ?_ (RdV.nodup_new H.out HND.out (E := ⟨q.at_, .slice (some ⟨gc, 0, none⟩) 256 nc, tornB T q.xs ba⟩) (g := gc) rfl (by have := HGC.out; have := HFR.out.size; omega))
            rw [List.append_assoc]
            exact List.Sublist.append_left (List.Sublist.append_right (List.take_sublist _ _) _) es
          · refine Frame.setCell (Frame.setCell (Frame.setCell ?_ (.inl H.out.self) _) (.inl H.out.self) _) (.inl H.out.self) _
            refine Frame.grown ?_ HG9.out (fun j hj => HGS.out j ((HR.out.foot j).2 (.inr (.inl hj))))
            exact (Frame.trans (HFR.out.same (Below.frame_ HX5.out)) HF.out (fun j hj => .inr (by have := HGC.out; have := HFR.out.size; omega))).drew
      · have hKe : Kn = ep.length := by omega
        have HE : Hid (crashR R keep torn = { { R with sure := prs (es ++ ep.take Kn) } with pend := [], after := -1 }) := Lib.hid (by
          unfold crashR
          have hl : R.pend.length = ep.length := by rw [HP0.out]; simp [prs]
          rw [hl, ← HK.out, hKe, ← hl, crashL_all, HS0.out, HP0.out, ← prs_append]
          rw [show (prs ep).length = ep.length by simp [prs], List.take_length])
        clear hKK hKe
        go_wp2
        go_end0
        refine ⟨rfl, ?_⟩
        rw [HE.out]
        refine ⟨_, ⟨_, _, _, [], HR.out.ended, by rw [List.append_nil]; exact own_sub (List.Sublist.append_left (List.take_sublist _ _) es) HND.out⟩, Frame.setCell (Frame.setCell HFR.out (.inl H.out.self) _) (.inl H.out.self) _, HR.out.ended_new HGS.out⟩
end Go.Proofs.Ytlmdghafiadgjaa
