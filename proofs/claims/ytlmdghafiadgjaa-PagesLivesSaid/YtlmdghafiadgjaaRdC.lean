/- disk: the document's Write, Sync. -/
import Derived.Test.YtlmdghafiadgjaaRdB
namespace Go.Proofs.Ytlmdghafiadgjaa
set_option linter.unusedVariables false
set_option linter.unusedSimpArgs false
open Go.RowKit Go.Proofs.YtlmdghafiadgjaaW.PrintWords Go.Proofs.YtlmdghafiadgjaaW.PrintLast

def writeR (R : RS) (i : Int) (xs : List Int) : Int × RS :=
  if hasV R.size i ≠ 0 ∨ xs.length ≠ 256 then (1, R) else if (planR R).1 ≠ 0 then planR R else (0, { (planR R).2 with pend := (planR R).2.pend ++ [(i, xs)] })
theorem planR_keeps (R : RS) : (planR R).2.size = R.size ∧ (planR R).2.sure = R.sure ∧ (planR R).2.pend = R.pend := by
  unfold planR
  split
  · exact ⟨rfl, rfl, rfl⟩
  · split <;> exact ⟨rfl, rfl, rfl⟩
theorem RdV.blk_old {w : World} {x : Nat} {vs vp : Value} {es ep : List En} {R : RS} {gs : Nat → Prop} (h : RdV w x vs vp es ep R gs) {e : En} (he : e ∈ es ++ ep) : ∃ g, own e = some g ∧ g < w.heap.size := by
  obtain ⟨g, cap, hv, _⟩ := (h.en e he).form
  have e1 : own e = some g := by unfold own; rw [hv]; rfl
  exact ⟨g, e1, own_lt (h.en e he).1 g e1⟩
theorem RdV.nodup_new {w : World} {x : Nat} {vs vp : Value} {es ep : List En} {R : RS} {gs : Nat → Prop} (h : RdV w x vs vp es ep R gs) (hnd : ((es ++ ep).map own).Nodup) {E : En} {g : Nat} (hE : own E = some g) (hg : w.heap.size ≤ g) : ((es ++ (ep ++ [E])).map own).Nodup := by
  rw [← List.append_assoc, List.map_append]
  refine List.nodup_append.2 ⟨hnd, by simp, fun a ha b hb e => ?_⟩
  obtain ⟨q, hq, rfl⟩ := List.mem_map.1 ha
  simp only [List.map_cons, List.map_nil, List.mem_singleton] at hb
  obtain ⟨k, h1, h2⟩ := h.blk_old hq
  rw [hb, hE, h1] at e
  injection e with e
  omega
theorem nodup_mid {es ep : List En} {E : En} (h : ((es ++ (ep ++ [E])).map own).Nodup) : (((es ++ [E]) ++ ep).map own).Nodup := by
  refine (List.Perm.nodup_iff (List.Perm.map own ?_)).1 h
  rw [List.append_assoc]
  exact List.Perm.append_left es List.perm_append_comm
theorem own_sub {a b : List En} (h : a.Sublist b) (hn : (b.map own).Nodup) : (a.map own).Nodup := List.Nodup.sublist (h.map own) hn
theorem ne_bool {q : Int} (h : q ≠ 0) : (q == 0) = false := beq_eq_false_iff_ne.mpr h
set_option maxRecDepth 100000 in
set_option maxHeartbeats 1000000 in
theorem rwrite_bad {x : Nat} {vs vp : Value} {es ep : List En} {R : RS} {gs : Nat → Prop} {w : World} (h : RdV w x vs vp es ep R gs) (i : Int) (A : Option Addr) (n c : Nat) (hn2 : n ≤ 9223372036854775807) (hv : hasV R.size i ≠ 0 ∨ n ≠ 256) :
    Calls Try.prog 59 #[.pointer (some ⟨x, 0, none⟩), .int .i64 i, .slice A n c] w fun e w' => e = .returned (.int .i64 1) ∧ w = w' := by
  have c0 : w.cell? ⟨x, 0, none⟩ = some (.int .i64 R.size) := (blk_cell h.blk 0).trans rfl
  clear h
  by_cases h0 : i < 0
  · go_enter Try.func59, Try.ntmps59
    go_wp2
    go_ret
    exact ⟨rfl, rfl⟩
  · by_cases h1 : R.size ≤ i
    · go_enter Try.func59, Try.ntmps59
      go_wp2
      go_ret
      exact ⟨rfl, rfl⟩
    · have h2 : n ≠ 256 := hv.resolve_left (by unfold hasV; rw [if_pos ⟨by omega, by omega⟩]; decide)
      have h3 : ((n : Int) != 256) = true := bne_iff_ne.mpr (by omega)
      clear hv
      go_enter Try.func59, Try.ntmps59
      go_wp2
      go_ret
      exact ⟨rfl, rfl⟩
set_option maxRecDepth 100000 in
set_option maxHeartbeats 1000000 in
theorem rwrite_plan {x : Nat} {vs vp : Value} {es ep : List En} {R : RS} {gs : Nat → Prop} {w : World} (h : RdV w x vs vp es ep R gs) (ha : R.after ≤ 9223372036854775807) (i : Int) (A : Option Addr) (c : Nat) (hv : hasV R.size i = 0) (hp : (planR R).1 ≠ 0) :
    Calls Try.prog 59 #[.pointer (some ⟨x, 0, none⟩), .int .i64 i, .slice A 256 c] w fun e w' => e = .returned (.int .i64 (planR R).1) ∧ RdV w' x vs vp es ep (planR R).2 gs ∧ Frame gs w w' := by
  have c0 : w.cell? ⟨x, 0, none⟩ = some (.int .i64 R.size) := (blk_cell h.blk 0).trans rfl
  have HP := Lib.hid (rplan_any h ha)
  clear h
  have h1 : 0 ≤ i ∧ i < R.size := by
    unfold hasV at hv
    split at hv
    · assumption
    · cases hv
  obtain ⟨h1, h2⟩ := h1
  clear hv
  generalize (planR R).1 = code at *
  have hb := ne_bool hp
  clear hp
  go_enter Try.func59, Try.ntmps59
  go_wp2_with (first
    | (go_at_call 60; ((with_reducible refine HP.out.mono ?_); rintro e w1 ⟨rfl, hD, hF⟩; have HD := Lib.hid hD; have HF := Lib.hid hF; clear hD hF)))
  go_ret
  exact ⟨rfl, HD.out, HF.out⟩
set_option maxRecDepth 100000 in
set_option maxHeartbeats 4000000 in
theorem rwrite_ok {x : Nat} {vs vp : Value} {es ep : List En} {R : RS} {gs : Nat → Prop} {w : World} (h : RdV w x vs vp es ep R gs) (hnd : ((es ++ ep).map own).Nodup) (ha : R.after ≤ 9223372036854775807) (i : Int) (A : Option Addr) (c : Nat) (xs : List Int) (hv : hasV R.size i = 0) (hp : (planR R).1 = 0)
    (hx : Blk xs) (hr : ReadsInt w .u8 A 256 xs) (hA : ∀ ad, A = some ad → ¬ gs ad.block) (hpl : R.pend.length ≤ 1000000000) :
    Calls Try.prog 59 #[.pointer (some ⟨x, 0, none⟩), .int .i64 i, .slice A 256 c] w fun e w' => e = .returned (.int .i64 0) ∧ REff w x gs { (planR R).2 with pend := (planR R).2.pend ++ [(i, xs)] } w' := by
  have c0 : w.cell? ⟨x, 0, none⟩ = some (.int .i64 R.size) := (blk_cell h.blk 0).trans rfl
  have HP := Lib.hid (rplan_any h ha)
  rw [hp] at HP
  have HLB : Hid ((ep.length + 1) * 32 ≤ 140737488355328) := Lib.hid (by
    have e := congrArg List.length h.pend
    simp only [prs, List.length_map] at e
    omega)
  have HG0 := Lib.hid (fun i hi => h.lt i hi)
  have HND := Lib.hid hnd
  have HXX := Lib.hid hx
  have HRD := Lib.hid (fun (w1 : World) (hf : Frame gs w w1) => reads_frame hr hf hA)
  clear h hnd hx hr hA hpl hp
  have h1 : 0 ≤ i ∧ i < R.size := by
    unfold hasV at hv
    split at hv
    · assumption
    · cases hv
  obtain ⟨h1, h2⟩ := h1
  clear hv
  generalize (planR R).2 = R1 at *
  go_enter Try.func59, Try.ntmps59
  go_wp2_with (first
    | (go_at_call 60; ((with_reducible refine HP.out.mono ?_); rintro e w1 ⟨rfl, hD, hF⟩; have HD := Lib.hid hD; have HF := Lib.hid hF; have c2 : w1.cell? ⟨x, 2, none⟩ = some vp := (blk_cell hD.blk 2).trans rfl; have HC := Lib.hid (fun W (hB : Below w1.heap.size w1 W) => copy_any A 256 c xs W (reads_frame (fs := fun _ => False) (HRD.out w1 hF) (Below.frame_ hB) (fun _ _ h => h)) (by decide)); clear hD hF)))
  -- W5
  refine start_ (n := 14) (S := fun w' => w'.cell? ⟨x, 2, none⟩ = some vp) (ds := [13]) #[false, false, false, false, false, false, false, false, false, false, false, false, false, false] (by kernel_rfl) rfl rfl (c2) (fun hHeld => ?_)
  refine pure_ (i := 0) (N := some 27) (v := ?_) (a' := ?_) #[true, false, false, false, false, false, false, false, false, false, false, false, false, false] rfl rfl (by kernel_rfl) (fun _ _ _ h => h) (Or.inl ⟨by rfl, ?_⟩) ?_ ?_
  rotate_left
  · intro w'
    go_simp
    with_reducible rfl
  rotate_left
  · simp only [Act.put, List.setIfInBounds_toArray, List.set_cons_zero, List.set_cons_succ, i64_w, i32_w]
    rfl
  refine pure_ (i := 1) (N := some 28) (v := ?_) (a' := ?_) #[true, true, false, false, false, false, false, false, false, false, false, false, false, false] rfl rfl (by kernel_rfl) (fun _ _ _ h => h) (Or.inl ⟨by rfl, ?_⟩) ?_ ?_
  rotate_left
  · intro w'
    go_simp
    with_reducible rfl
  rotate_left
  · simp only [Act.put, List.setIfInBounds_toArray, List.set_cons_zero, List.set_cons_succ, i64_w, i32_w]
    rfl
  refine pure_ (i := 2) (N := some 29) (v := ?_) (a' := ?_) #[true, true, true, false, false, false, false, false, false, false, false, false, false, false] rfl rfl (by kernel_rfl) (fun _ _ _ h => h) (Or.inl ⟨by rfl, ?_⟩) ?_ ?_
  rotate_left
  · intro w'
    go_simp
    with_reducible rfl
  rotate_left
  · simp only [Act.put, List.setIfInBounds_toArray, List.set_cons_zero, List.set_cons_succ, i64_w, i32_w]
    rfl
  refine pure_ (i := 3) (N := some 30) (v := ?_) (a' := ?_) #[true, true, true, true, false, false, false, false, false, false, false, false, false, false] rfl rfl (by kernel_rfl) (fun _ _ _ h => h) (Or.inl ⟨by rfl, ?_⟩) ?_ ?_
  rotate_left
  · intro w'
    go_simp
    with_reducible rfl
  rotate_left
  · simp only [Act.put, List.setIfInBounds_toArray, List.set_cons_zero, List.set_cons_succ, i64_w, i32_w]
    rfl
  refine pure_ (i := 5) (N := some 32) (v := ?_) (a' := ?_) #[true, true, true, true, false, true, false, false, false, false, false, false, false, false] rfl rfl (by kernel_rfl) (fun _ _ _ h => h) (Or.inl ⟨by rfl, ?_⟩) ?_ ?_
  rotate_left
  · intro w'
    go_simp
    with_reducible rfl
  rotate_left
  · simp only [Act.put, List.setIfInBounds_toArray, List.set_cons_zero, List.set_cons_succ, i64_w, i32_w]
    rfl
  refine pure_ (i := 6) (N := some 33) (v := ?_) (a' := ?_) #[true, true, true, true, false, true, true, false, false, false, false, false, false, false] rfl rfl (by kernel_rfl) (fun _ _ _ h => h) (Or.inl ⟨by rfl, ?_⟩) ?_ ?_
  rotate_left
  · intro w'
    go_simp
    with_reducible rfl
  rotate_left
  · simp only [Act.put, List.setIfInBounds_toArray, List.set_cons_zero, List.set_cons_succ, i64_w, i32_w]
    rfl
  refine take_ (i := 4) (N := some 31) (v := ?_) (a' := ?_) #[true, true, true, true, true, true, true, false, false, false, false, false, false, false] rfl rfl (by kernel_rfl) (fun _ _ _ h => h) (Or.inl ⟨by rfl, ?_⟩) hHeld ?_ ?_
  rotate_left
  · intro w' s0
    go_simp
    with_reducible rfl
  rotate_left
  · simp only [Act.put, List.setIfInBounds_toArray, List.set_cons_zero, List.set_cons_succ, i64_w, i32_w]
    rfl
  refine one_ (i := 7) (N := some 34) #[true, true, true, true, true, true, true, true, false, false, false, false, false, false] rfl rfl (by kernel_rfl) (by decide) (fun K hK => ?_)
  refine goes_ Try.func35 (by kernel_rfl) rfl #[.slice A 256 c] (by rfl) rfl rfl (by simp only [List.map_toArray, List.map_cons, List.map_nil] <;> rfl) ?_
  with_reducible refine (HC.out _ (b_drew (Below.refl _ _))).mono ?_
  rintro e w2 ⟨vc, rfl, hO, hB⟩
  refine ⟨_, rfl, ?_⟩
  have HX2 := Lib.hid (below_step (b_drew (Below.refl _ _)) hB)
  have HD2 := Lib.hid (HD.out.below HX2.out)
  obtain ⟨gc, nc, rfl, hnc⟩ := own_form hO (by rw [HXX.out.1]; decide)
  have HE2 : Hid (EnAt w2 ⟨i, .slice (some ⟨gc, 0, none⟩) xs.length nc, xs⟩) := Lib.hid ⟨hO.lower (Nat.zero_le _), HXX.out⟩
  have c22 : w2.cell? ⟨x, 2, none⟩ = some vp := (blk_cell HD2.out.blk 2).trans rfl
  have HGC : Hid (w1.heap.size ≤ gc) := Lib.hid (own_base hO gc rfl)
  clear hO hB hnc
  refine hK.out _ _ (c22) (fun hHeld => ?_)
  clear hK K
  refine norm_ (a' := ?_) ?_ ?_
  rotate_left
  · show Act.put _ (some 34) _ = _
    simp only [Act.put, List.setIfInBounds_toArray, List.set_cons_zero, List.set_cons_succ, i64_w, i32_w]
    rfl
  refine pure_ (i := 8) (N := some 35) (v := ?_) (a' := ?_) #[true, true, true, true, true, true, true, true, true, false, false, false, false, false] rfl rfl (by kernel_rfl) (fun _ _ _ h => h) (Or.inl ⟨by rfl, ?_⟩) ?_ ?_
  rotate_left
  · intro w'
    go_simp
    with_reducible rfl
  rotate_left
  · simp only [Act.put, List.setIfInBounds_toArray, List.set_cons_zero, List.set_cons_succ, i64_w, i32_w]
    rfl
  refine one_ (i := 9) (N := some 36) #[true, true, true, true, true, true, true, true, true, true, false, false, false, false] rfl rfl (by kernel_rfl) (by decide) (fun K hK => ?_)
  refine value_ (w1 := ?_) (v := ?_) (by rfl) rfl ?_ ?_
  rotate_left 2
  · go_simp
    constructor
    · rfl
    · rfl
  refine hK.out _ _ (pw_cell_below (below_first _) c22) (fun hHeld => ?_)
  clear hK K
  refine norm_ (a' := ?_) ?_ ?_
  rotate_left
  · show Act.put _ (some 36) _ = _
    simp only [Act.put, List.setIfInBounds_toArray, List.set_cons_zero, List.set_cons_succ, i64_w, i32_w]
    rfl
  refine one_ (i := 10) (N := some 37) #[true, true, true, true, true, true, true, true, true, true, true, false, false, false] rfl rfl (by kernel_rfl) (by decide) (fun K hK => ?_)
  refine step_append_cells (W := w2) 0 (by rfl) _ _ 81 92 (.agg #[.int .i64 0, .slice none 0 0]) 2 32 (by rfl) Try.underlying81 infoWr28 rfl (by decide) (by decide) vp ep.length (ep.flatMap ecells) (ecells ⟨i, .slice (some ⟨gc, 0, none⟩) xs.length nc, xs⟩) (by rfl) (by rfl) rfl HE2.out.one HD2.out.pe (Below.refl _ _) (Nat.zero_le _) HLB.out ?_
  intro v1 w3 hO3 _ hG3 hA3
  obtain ⟨A1, n1, rfl⟩ := own_slice hO3
  have hb3 := (hG3.block x (blk_lt HD2.out.blk) HD2.out.xne.2.1).trans HD2.out.blk
  have e2 : w3.cell? ⟨x, 2, none⟩ = some vp := (blk_cell hb3 2).trans rfl
  have f2 := blk_frozen hb3 2
  have HO3 := Lib.hid hO3
  have HG3 := Lib.hid hG3
  have HA3 := Lib.hid hA3
  clear hO3 hG3 hA3 hb3
  refine hK.out _ _ (e2) (fun hHeld => ?_)
  clear hK K
  refine norm_ (a' := ?_) ?_ ?_
  rotate_left
  · show Act.put _ (some 37) _ = _
    simp only [Act.put, List.setIfInBounds_toArray, List.set_cons_zero, List.set_cons_succ, i64_w, i32_w]
    rfl
  refine pure_ (i := 11) (N := some 38) (v := ?_) (a' := ?_) #[true, true, true, true, true, true, true, true, true, true, true, true, false, false] rfl rfl (by kernel_rfl) (fun _ _ _ h => h) (Or.inl ⟨by rfl, ?_⟩) ?_ ?_
  rotate_left
  · intro w'
    go_simp
    with_reducible rfl
  rotate_left
  · simp only [Act.put, List.setIfInBounds_toArray, List.set_cons_zero, List.set_cons_succ, i64_w, i32_w]
    rfl
  refine pure_ (i := 12) (N := some 39) (v := ?_) (a' := ?_) #[true, true, true, true, true, true, true, true, true, true, true, true, true, false] rfl rfl (by kernel_rfl) (fun _ _ _ h => h) (Or.inl ⟨by rfl, ?_⟩) ?_ ?_
  rotate_left
  · intro w'
    go_simp
    with_reducible rfl
  rotate_left
  · simp only [Act.put, List.setIfInBounds_toArray, List.set_cons_zero, List.set_cons_succ, i64_w, i32_w]
    rfl
  refine last_ (i := 13) (N := none) #[true, true, true, true, true, true, true, true, true, true, true, true, true, true] rfl rfl (by kernel_rfl) (by decide) (fun K hK => ?_)
  refine skip_ (w1 := ?_) (by rfl) rfl ?_ ?_
  rotate_left
  · go_simp
    rfl
  refine hK.out _ _ ?_
  clear hK K
  refine done_ (by kernel_rfl) ?_
  -- ENDW5
  go_wp2
  go_ret
  have hx1 := HD.out.lt
  have hE1 : own ⟨i, .slice (some ⟨gc, 0, none⟩) xs.length nc, xs⟩ = some gc := rfl
  have hs1 := HF.out.size
  have hs2 := HX2.out.size
  refine ⟨rfl, _, ⟨vs, _, es, _, HD2.out.pended HE2.out HO3.out HG3.out HA3.out, HD.out.nodup_new HND.out hE1 HGC.out⟩, ?_, ?_⟩
  · refine Frame.setCell ?_ (.inl HD.out.self) _
    refine Frame.grown (HF.out.same (Below.frame_ HX2.out)) HG3.out (fun k hk => .inl ((HD.out.foot k).2 (.inr (.inr (.inl hk)))))
  · rintro j (rfl | hj | hj | ⟨e, he, hj⟩)
    · exact .inl HD.out.self
    · exact .inl ((HD.out.foot j).2 (.inr (.inl hj)))
    · rcases HA3.out with ha | ⟨b, ha, hb⟩
      · exact .inl ((HD.out.foot j).2 (.inr (.inr (.inl (ha ▸ hj)))))
      · rw [ha] at hj
        injection hj with hj
        exact .inr (by omega)
    · rw [← List.append_assoc] at he
      rcases List.mem_append.1 he with he | he
      · exact .inl ((HD.out.foot j).2 (.inr (.inr (.inr ⟨e, he, hj⟩))))
      · rw [List.mem_singleton.1 he] at hj
        have hj2 : some gc = some j := hj
        injection hj2 with hj2
        have := HGC.out
        exact .inr (by omega)
theorem REff.of {w w' : World} {x : Nat} {vs vp : Value} {es ep : List En} {R' : RS} {gs : Nat → Prop} (h : RdV w' x vs vp es ep R' gs) (hn : ((es ++ ep).map own).Nodup) (hf : Frame gs w w') : REff w x gs R' w' := ⟨gs, ⟨vs, vp, es, ep, h, hn⟩, hf, fun _ h => .inl h⟩
theorem rwrite_any {x : Nat} {R : RS} {gs : Nat → Prop} {w : World} (h : RefAt w x R gs) (ha : R.after ≤ 9223372036854775807) (hpl : R.pend.length ≤ 1000000000) (i : Int) (A : Option Addr) (c : Nat) (xs : List Int)
    (hx : Bytes xs) (hr : ReadsInt w .u8 A xs.length xs) (hA : ∀ ad, A = some ad → ¬ gs ad.block) :
    Calls Try.prog 59 #[.pointer (some ⟨x, 0, none⟩), .int .i64 i, .slice A xs.length c] w fun e w' => e = .returned (.int .i64 (writeR R i xs).1) ∧ REff w x gs (writeR R i xs).2 w' := by
  obtain ⟨vs, vp, es, ep, h, hn⟩ := h
  unfold writeR
  by_cases hv : hasV R.size i ≠ 0 ∨ xs.length ≠ 256
  · rw [if_pos hv]
    refine (rwrite_bad h i A xs.length c hr.2.1 hv).mono ?_
    rintro e w' ⟨he, rfl⟩
    exact ⟨he, REff.of h hn (Frame.refl _ _)⟩
  · rw [if_neg hv]
    have hv1 : hasV R.size i = 0 := Decidable.of_not_not (fun h => hv (.inl h))
    have hv2 : xs.length = 256 := Decidable.of_not_not (fun h => hv (.inr h))
    rw [hv2] at hr ⊢
    by_cases hp : (planR R).1 = 0
    · rw [if_neg (by simp [hp])]
      exact rwrite_ok h hn ha i A c xs hv1 hp ⟨hv2, hx⟩ hr hA hpl
    · rw [if_pos hp]
      refine (rwrite_plan h ha i A c hv1 hp).mono ?_
      rintro e w' ⟨he, hD, hF⟩
      exact ⟨he, REff.of hD hn hF⟩
/-! Sync: a whole list is appended. -/
theorem run_append_rows {P : Program} {W : World} (t ty e : TypeId) (i0 : TypeInfo) (z : Value) (size bytes : Nat) (ht : P.underlying t = some (.slice e)) (hi : P.info? e = some i0) (hz0 : i0.zero = some z) (hz1 : i0.size = size) (hz2 : i0.bytes = bytes) (hz : z.cells.size = size) (hs0 : 0 < size)
    (v : Value) (n : Nat) (xs : List Value) (h : W.ownsRow 0 e size v n xs) (v2 : Value) (m : Nat) (ys : List Value) (h2 : W.ownsRow 0 e size v2 m ys) (h1 : ∀ u ∈ ys, u.oneCell' = true) (hmx : n + m ≤ 100000000000) (hl : (n + m) * bytes ≤ 140737488355328) :
    ∃ v1 w1, (Builtin.append_ #[t, t] ty #[v, v2]).run P W = .ok v1 w1 ∧ w1.ownsRow 0 e size v1 (n + m) (xs ++ ys) ∧ W.grownBy w1 v.ownBlock ∧ (v1.ownBlock = v.ownBlock ∨ ∃ b, v1.ownBlock = some b ∧ W.heap.size ≤ b) := by
  rcases h2.2 with ⟨rfl, rfl⟩ | ⟨g, cap, cur, rfl, _, hh, _⟩
  · obtain rfl : ys = [] := List.eq_nil_of_length_eq_zero (by rw [h2.1, Nat.zero_mul])
    refine ⟨v, W, ?_, by simpa using h, World.grownBy.refl W _, .inl rfl⟩
    rcases h.2 with ⟨rfl, hn⟩ | ⟨g, cap, cur, rfl, _, _, hnc, _⟩
    · simp [Builtin.append_, run_underlying ht, sizeOf, typeInfo, hi, Builtin.lenOf, Builtin.firstCells]
    · simp [Builtin.append_, run_underlying ht, sizeOf, typeInfo, hi, Builtin.lenOf, Builtin.firstCells, hnc, storeCells]
  · obtain ⟨v1, w1, hr, hown, hg, _, hat⟩ := run_append_own_at (P := P) W 0 t ty e i0 z size bytes ht hi hz0 hz1 hz2 hz hs0 v n xs h ⟨g, 0, none⟩ m cap ys h2.1 (fun j u hu => h2.cells (g := g) rfl j u hu) h1 (by simp only [maxLen]; omega) hl (Nat.zero_le _)
    refine ⟨v1, w1, hr, hown, hg, ?_⟩
    rcases hat with hat | hat
    · exact .inl hat
    · exact .inr ⟨_, hat, Nat.le_refl _⟩
def syncR (R : RS) : Int × RS := if (planR R).1 ≠ 0 then planR R else (0, { (planR R).2 with sure := R.sure ++ R.pend, pend := [] })
set_option maxRecDepth 100000 in
set_option maxHeartbeats 1000000 in
theorem rsync_plan {x : Nat} {vs vp : Value} {es ep : List En} {R : RS} {gs : Nat → Prop} {w : World} (h : RdV w x vs vp es ep R gs) (ha : R.after ≤ 9223372036854775807) (hp : (planR R).1 ≠ 0) :
    Calls Try.prog 50 #[.pointer (some ⟨x, 0, none⟩)] w fun e w' => e = .returned (.int .i64 (planR R).1) ∧ RdV w' x vs vp es ep (planR R).2 gs ∧ Frame gs w w' := by
  have HP := Lib.hid (rplan_any h ha)
  clear h
  generalize (planR R).1 = code at *
  have hb := ne_bool hp
  clear hp
  go_enter Try.func50, Try.ntmps50
  go_wp2_with (first
    | (go_at_call 60; ((with_reducible refine HP.out.mono ?_); rintro e w1 ⟨rfl, hD, hF⟩; have HD := Lib.hid hD; have HF := Lib.hid hF; clear hD hF)))
  go_ret
  exact ⟨rfl, HD.out, HF.out⟩
theorem none_or (o : Option Nat) : o = none ∨ o ≠ none := by cases o <;> simp
/-- The pending writes have become sure ones. -/
theorem RdV.synced {w w3 : World} {x : Nat} {vs vp v1 : Value} {es ep : List En} {R : RS} {gs : Nat → Prop} (h : RdV w x vs vp es ep R gs)
    (hO : w3.ownsRow 0 92 2 v1 (es.length + ep.length) (es.flatMap ecells ++ ep.flatMap ecells)) (hG : w.grownBy w3 vs.ownBlock) :
    RdV ((w3.setCell ⟨x, 1, none⟩ v1).setCell ⟨x, 2, none⟩ (.slice none 0 0)) x v1 (.slice none 0 0) (es ++ ep) [] { R with sure := R.sure ++ R.pend, pend := [] } (fun i => i = x ∨ v1.ownBlock = some i ∨ (Value.slice none 0 0).ownBlock = some i ∨ ∃ e ∈ (es ++ ep) ++ [], e.v.ownBlock = some i) := by
  obtain ⟨n1, n2, n3⟩ := h.xne
  have hb3 := (hG.block x (blk_lt h.blk) n1).trans h.blk
  have hO' : EsAt w3 v1 (es ++ ep) := by
    unfold EsAt
    rw [List.length_append, List.flatMap_append]
    exact hO
  have hx1 := own_ne hO' hb3 (by decide)
  have hen : ∀ e ∈ (es ++ ep) ++ [], EnAt w3 e := by
    intro e he
    rw [List.append_nil] at he
    exact ⟨own_other (h.en e he).1 hG (own_apart (h.en e he).1 h.se (by decide)), (h.en e he).2⟩
  refine ⟨blk_set (blk_set hb3 1 v1) 2 (.slice none 0 0), own_setCell (own_setCell hO' hx1 _) hx1 _, own_nil _ _ _ _, fun e he => ?_, none_or _, ?_, rfl, fun i => Iff.rfl⟩
  · have hne := own_ne (hen e he).1 hb3 (by decide)
    exact ⟨own_setCell (own_setCell (hen e he).1 hne _) hne _, (hen e he).2⟩
  · show R.sure ++ R.pend = prs (es ++ ep)
    rw [h.sure, h.pend]; simp [prs]
/-- An append of a list to a list, as a step of a region that draws. -/
theorem step_append_any {P : Program} {ops : Array Oper} {Q : Exit → Act → World → Prop} {o : Oper} {a : Act} {K : Act → World → Prop} {W : World} (Φ : Value → World → Prop) (hw : Region.wanted o (yielded ops a.tmps) = true) (s x : Operand) (t : TypeId)
    (ho : o.op = .call { callee := .builtin .append, args := #[s, x], argTypes := #[t, t] }) (v v2 : Value) (hs : a.eval s = v) (hx : a.eval x = v2)
    (hrun : ∃ v1 w1, (Builtin.append_ #[t, t] o.type #[v, v2]).run P W = .ok v1 w1 ∧ Φ v1 w1) (h : ∀ v1 w1, Φ v1 w1 → K (a.put o.dst v1) w1) :
    if Region.wanted o (yielded ops a.tmps) = true then Oper.wp P o a W K Q else K (a.put o.dst undef) W := by
  obtain ⟨v1, w1, hr, hp⟩ := hrun
  rw [if_pos hw]
  unfold Oper.wp execOp
  simp only [ho, resolve, invoke, builtin, Sem.run_bind, Sem.run_pure, Result.andThen_ok, List.map_toArray, List.map_cons, List.map_nil, hs, hx, hr]
  exact h v1 w1 hp
theorem EnAt.ones {w : World} {es : List En} (h : ∀ e ∈ es, EnAt w e) : ∀ u ∈ es.flatMap ecells, u.oneCell' = true := by
  intro u hu
  obtain ⟨e, he, hu⟩ := List.mem_flatMap.1 hu
  exact (h e he).one u hu
set_option maxRecDepth 100000 in
set_option maxHeartbeats 4000000 in
theorem rsync_ok {x : Nat} {vs vp : Value} {es ep : List En} {R : RS} {gs : Nat → Prop} {w : World} (h : RdV w x vs vp es ep R gs) (hnd : ((es ++ ep).map own).Nodup) (ha : R.after ≤ 9223372036854775807) (hp : (planR R).1 = 0) (hpl : R.sure.length + R.pend.length ≤ 1000000000) :
    Calls Try.prog 50 #[.pointer (some ⟨x, 0, none⟩)] w fun e w' => e = .returned (.int .i64 0) ∧ REff w x gs { (planR R).2 with sure := R.sure ++ R.pend, pend := [] } w' := by
  have HP := Lib.hid (rplan_any h ha)
  rw [hp] at HP
  obtain ⟨hk1, hk2, hk3⟩ := planR_keeps R
  rw [← hk2, ← hk3]
  have HLB : Hid (es.length + ep.length ≤ 1000000000) := Lib.hid (by
    have e := congrArg List.length h.pend
    have e2 := congrArg List.length h.sure
    simp only [prs, List.length_map] at e e2
    omega)
  have HND := Lib.hid hnd
  clear h hnd hpl hp hk1 hk2 hk3
  generalize (planR R).2 = R1 at *
  go_enter Try.func50, Try.ntmps50
  go_wp2_with (first
    | (go_at_call 60; ((with_reducible refine HP.out.mono ?_); rintro e w1 ⟨rfl, hD, hF⟩; have HD := Lib.hid hD; have HF := Lib.hid hF; have c1 : w1.cell? ⟨x, 1, none⟩ = some vs := (blk_cell hD.blk 1).trans rfl; have c2 : w1.cell? ⟨x, 2, none⟩ = some vp := (blk_cell hD.blk 2).trans rfl; clear hD hF)))
  have HD1 : Hid (RdV w1.drew x vs vp es ep R1 gs) := Lib.hid (HD.out.keep (fun _ _ => rfl))
  have HAP := Lib.hid (fun ty => by
    obtain ⟨i0, hi, hzz⟩ := Option.map_eq_some_iff.1 infoWr28
    simp only [Prod.mk.injEq] at hzz
    have hlb := HLB.out
    exact run_append_rows (P := Try.prog) 81 ty 92 i0 _ 2 32 Try.underlying81 hi hzz.1 hzz.2.1 hzz.2.2 rfl (by decide) vs es.length _ HD1.out.se vp ep.length _ HD1.out.pe (EnAt.ones (fun e he => HD1.out.en e (by simp [he]))) (by omega) (by omega))
  -- W3
  refine start_ (n := 13) (S := fun w' => w'.cell? ⟨x, 1, none⟩ = some vs ∧ w'.cell? ⟨x, 2, none⟩ = some vp) (ds := [12]) #[false, false, false, false, false, false, false, false, false, false, false, false, false] (by kernel_rfl) rfl rfl ⟨c1, c2⟩ (fun hHeld => ?_)
  refine pure_ (i := 0) (N := some 8) (v := ?_) (a' := ?_) #[true, false, false, false, false, false, false, false, false, false, false, false, false] rfl rfl (by kernel_rfl) (fun _ _ _ h => h) (Or.inl ⟨by rfl, ?_⟩) ?_ ?_
  rotate_left
  · intro w'
    go_simp
    with_reducible rfl
  rotate_left
  · simp only [Act.put, List.setIfInBounds_toArray, List.set_cons_zero, List.set_cons_succ, i64_w, i32_w]
    rfl
  refine pure_ (i := 1) (N := some 9) (v := ?_) (a' := ?_) #[true, true, false, false, false, false, false, false, false, false, false, false, false] rfl rfl (by kernel_rfl) (fun _ _ _ h => h) (Or.inl ⟨by rfl, ?_⟩) ?_ ?_
  rotate_left
  · intro w'
    go_simp
    with_reducible rfl
  rotate_left
  · simp only [Act.put, List.setIfInBounds_toArray, List.set_cons_zero, List.set_cons_succ, i64_w, i32_w]
    rfl
  refine pure_ (i := 2) (N := some 10) (v := ?_) (a' := ?_) #[true, true, true, false, false, false, false, false, false, false, false, false, false] rfl rfl (by kernel_rfl) (fun _ _ _ h => h) (Or.inl ⟨by rfl, ?_⟩) ?_ ?_
  rotate_left
  · intro w'
    go_simp
    with_reducible rfl
  rotate_left
  · simp only [Act.put, List.setIfInBounds_toArray, List.set_cons_zero, List.set_cons_succ, i64_w, i32_w]
    rfl
  refine pure_ (i := 3) (N := some 11) (v := ?_) (a' := ?_) #[true, true, true, true, false, false, false, false, false, false, false, false, false] rfl rfl (by kernel_rfl) (fun _ _ _ h => h) (Or.inl ⟨by rfl, ?_⟩) ?_ ?_
  rotate_left
  · intro w'
    go_simp
    with_reducible rfl
  rotate_left
  · simp only [Act.put, List.setIfInBounds_toArray, List.set_cons_zero, List.set_cons_succ, i64_w, i32_w]
    rfl
  refine pure_ (i := 5) (N := some 13) (v := ?_) (a' := ?_) #[true, true, true, true, false, true, false, false, false, false, false, false, false] rfl rfl (by kernel_rfl) (fun _ _ _ h => h) (Or.inl ⟨by rfl, ?_⟩) ?_ ?_
  rotate_left
  · intro w'
    go_simp
    with_reducible rfl
  rotate_left
  · simp only [Act.put, List.setIfInBounds_toArray, List.set_cons_zero, List.set_cons_succ, i64_w, i32_w]
    rfl
  refine pure_ (i := 6) (N := some 14) (v := ?_) (a' := ?_) #[true, true, true, true, false, true, true, false, false, false, false, false, false] rfl rfl (by kernel_rfl) (fun _ _ _ h => h) (Or.inl ⟨by rfl, ?_⟩) ?_ ?_
  rotate_left
  · intro w'
    go_simp
    with_reducible rfl
  rotate_left
  · simp only [Act.put, List.setIfInBounds_toArray, List.set_cons_zero, List.set_cons_succ, i64_w, i32_w]
    rfl
  refine pure_ (i := 7) (N := some 15) (v := ?_) (a' := ?_) #[true, true, true, true, false, true, true, true, false, false, false, false, false] rfl rfl (by kernel_rfl) (fun _ _ _ h => h) (Or.inl ⟨by rfl, ?_⟩) ?_ ?_
  rotate_left
  · intro w'
    go_simp
    with_reducible rfl
  rotate_left
  · simp only [Act.put, List.setIfInBounds_toArray, List.set_cons_zero, List.set_cons_succ, i64_w, i32_w]
    rfl
  refine take_ (i := 4) (N := some 12) (v := ?_) (a' := ?_) #[true, true, true, true, true, true, true, true, false, false, false, false, false] rfl rfl (by kernel_rfl) (fun _ _ _ h => h) (Or.inl ⟨by rfl, ?_⟩) hHeld ?_ ?_
  rotate_left
  · rintro w' ⟨s0, s1⟩
    go_simp
    with_reducible rfl
  rotate_left
  · simp only [Act.put, List.setIfInBounds_toArray, List.set_cons_zero, List.set_cons_succ, i64_w, i32_w]
    rfl
  refine take_ (i := 8) (N := some 16) (v := ?_) (a' := ?_) #[true, true, true, true, true, true, true, true, true, false, false, false, false] rfl rfl (by kernel_rfl) (fun _ _ _ h => h) (Or.inl ⟨by rfl, ?_⟩) hHeld ?_ ?_
  rotate_left
  · rintro w' ⟨s0, s1⟩
    go_simp
    with_reducible rfl
  rotate_left
  · simp only [Act.put, List.setIfInBounds_toArray, List.set_cons_zero, List.set_cons_succ, i64_w, i32_w]
    rfl
  refine one_ (i := 9) (N := some 17) #[true, true, true, true, true, true, true, true, true, true, false, false, false] rfl rfl (by kernel_rfl) (by decide) (fun K hK => ?_)
  refine step_append_any (W := w1.drew) _ (by rfl) _ _ 81 (by rfl) vs vp (by rfl) (by rfl) (HAP.out _) ?_
  rintro v1 w3 ⟨hO3, hG3, hA3⟩
  obtain ⟨A1, n1, rfl⟩ := own_slice hO3
  have hb3 := (hG3.block x (blk_lt HD1.out.blk) HD1.out.xne.1).trans HD1.out.blk
  have e1 : w3.cell? ⟨x, 1, none⟩ = some vs := (blk_cell hb3 1).trans rfl
  have e2 : w3.cell? ⟨x, 2, none⟩ = some vp := (blk_cell hb3 2).trans rfl
  have f1 := blk_frozen hb3 1
  have f2 := blk_frozen hb3 2
  have HO3 := Lib.hid hO3
  have HG3 := Lib.hid hG3
  have HA3 := Lib.hid hA3
  clear hO3 hG3 hA3 hb3
  refine hK.out _ _ ⟨e1, e2⟩ (fun hHeld => ?_)
  clear hK K
  refine norm_ (a' := ?_) ?_ ?_
  rotate_left
  · show Act.put _ (some 17) _ = _
    simp only [Act.put, List.setIfInBounds_toArray, List.set_cons_zero, List.set_cons_succ, i64_w, i32_w]
    rfl
  refine pure_ (i := 10) (N := some 18) (v := ?_) (a' := ?_) #[true, true, true, true, true, true, true, true, true, true, true, false, false] rfl rfl (by kernel_rfl) (fun _ _ _ h => h) (Or.inl ⟨by rfl, ?_⟩) ?_ ?_
  rotate_left
  · intro w'
    go_simp
    with_reducible rfl
  rotate_left
  · simp only [Act.put, List.setIfInBounds_toArray, List.set_cons_zero, List.set_cons_succ, i64_w, i32_w]
    rfl
  refine pure_ (i := 11) (N := some 19) (v := ?_) (a' := ?_) #[true, true, true, true, true, true, true, true, true, true, true, true, false] rfl rfl (by kernel_rfl) (fun _ _ _ h => h) (Or.inl ⟨by rfl, ?_⟩) ?_ ?_
  rotate_left
  · intro w'
    go_simp
    with_reducible rfl
  rotate_left
  · simp only [Act.put, List.setIfInBounds_toArray, List.set_cons_zero, List.set_cons_succ, i64_w, i32_w]
    rfl
  refine last_ (i := 12) (N := none) #[true, true, true, true, true, true, true, true, true, true, true, true, true] rfl rfl (by kernel_rfl) (by decide) (fun K hK => ?_)
  refine skip_ (w1 := ?_) (by rfl) rfl ?_ ?_
  rotate_left
  · go_simp
    rfl
  refine hK.out _ _ ?_
  clear hK K
  refine done_ (by kernel_rfl) ?_
  -- ENDW3
  go_wp2
  go_ret
  have hG : w1.drew.grownBy w3 vs.ownBlock := HG3.out
  refine ⟨rfl, _, ⟨_, _, _, [], HD1.out.synced HO3.out hG, by rw [List.append_nil]; exact HND.out⟩, ?_, ?_⟩
  · refine Frame.setCell (Frame.setCell ?_ (.inl HD.out.self) _) (.inl HD.out.self) _
    exact Frame.grown HF.out.drew hG (fun k hk => .inl ((HD.out.foot k).2 (.inr (.inl hk))))
  · have hs1 := HF.out.size
    rintro j (rfl | hj | hj | ⟨e, he, hj⟩)
    · exact .inl HD.out.self
    · rcases HA3.out with ha | ⟨b, ha, hb⟩
      · exact .inl ((HD.out.foot j).2 (.inr (.inl (ha ▸ hj))))
      · rw [ha] at hj
        injection hj with hj
        have hb' : w1.heap.size ≤ b := hb
        exact .inr (by omega)
    · cases hj
    · rw [List.append_nil] at he
      exact .inl ((HD.out.foot j).2 (.inr (.inr (.inr ⟨e, he, hj⟩))))
theorem rsync_any {x : Nat} {R : RS} {gs : Nat → Prop} {w : World} (h : RefAt w x R gs) (ha : R.after ≤ 9223372036854775807) (hpl : R.sure.length + R.pend.length ≤ 1000000000) :
    Calls Try.prog 50 #[.pointer (some ⟨x, 0, none⟩)] w fun e w' => e = .returned (.int .i64 (syncR R).1) ∧ REff w x gs (syncR R).2 w' := by
  obtain ⟨vs, vp, es, ep, h, hn⟩ := h
  unfold syncR
  by_cases hp : (planR R).1 = 0
  · rw [if_neg (by simp [hp])]
    exact rsync_ok h hn ha hp hpl
  · rw [if_pos hp]
    refine (rsync_plan h ha hp).mono ?_
    rintro e w' ⟨he, hD, hF⟩
    exact ⟨he, REff.of hD hn hF⟩
end Go.Proofs.Ytlmdghafiadgjaa
