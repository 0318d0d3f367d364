/- disk: what the statements' model does with the document's disk; in plain terms: the two disks are one. -/
import Derived.Test.YtfjeincceglfoaaRdE
namespace Go.Proofs.Ytfjeincceglfoaa
set_option linter.unusedVariables false
set_option linter.unusedSimpArgs false
open Go.RowKit Go.Proofs.YtfjeincceglfoaaW.PrintWords Go.Proofs.YtfjeincceglfoaaW.PrintLast

theorem rcrash_any {x : Nat} {R : RS} {gs : Nat → Prop} {w : World} (h : RefAt w x R gs) (keep torn : Int) (hpl : R.sure.length + R.pend.length ≤ 1000000000) :
    Calls Try.prog 32 #[.pointer (some ⟨x, 0, none⟩), .int .i64 keep, .int .i64 torn] w fun e w' => e = .returned (.tuple #[]) ∧ REff w x gs (crashR R keep torn) w' := by
  obtain ⟨vs, vp, es, ep, h, hn⟩ := h
  exact rcrash_v h hn keep torn hpl
theorem rfail_eff {x : Nat} {R : RS} {gs : Nat → Prop} {w : World} (h : RefAt w x R gs) (a e0 : Int) :
    Calls Try.prog 33 #[.pointer (some ⟨x, 0, none⟩), .int .i64 a, .int .i64 e0] w fun e w' => e = .returned (.int .i64 (failR R a e0).1) ∧ REff w x gs (failR R a e0).2 w' := by
  obtain ⟨vs, vp, es, ep, h, hn⟩ := h
  refine (rfail_any h a e0).mono ?_
  rintro e w' ⟨he, hD, hF⟩
  exact ⟨he, REff.of hD hn hF⟩
theorem REff.first {w w1 : World} {x : Nat} {gs : Nat → Prop} {R' : RS} (o : Obj) (h : REff (w.alloc o) x gs R' w1) : REff w x gs R' w1 := by
  obtain ⟨gs', h1, h2, h3⟩ := h
  exact ⟨gs', h1, (Below.frame_ (below_first o)).same h2, fun i hi => (h3 i hi).imp id (fun h => by simp at h; omega)⟩
/-! The statements' model. -/
set_option maxRecDepth 100000 in
set_option maxHeartbeats 2000000 in
theorem model_write {x : Nat} {R : RS} {gs : Nat → Prop} (a n t f : Int) (bad : Bool) (e : Int) (w : World) (h : RefAt w x R gs) (ha : R.after ≤ 9223372036854775807) (hpl : R.pend.length ≤ 1000000000) :
    Calls Try.prog 19 #[.pointer (some ⟨x, 0, none⟩), .agg #[.int .i64 0, .int .i64 a, .int .i64 n, .int .i64 t, .int .u8 f, .bool bad, .int .i64 e]] w fun e w' => e = .returned (.int .i64 (writeR R a (bytesV f bad)).1) ∧ REff w x gs (writeR R a (bytesV f bad)).2 w' := by
  have HBY := Lib.hid (fun W => bytes_any 0 a n t f bad e W)
  have hb0 := heap_alloc_last w (.cells #[.int .i64 0, .int .i64 a, .int .i64 n, .int .i64 t, .int .u8 f, .bool bad, .int .i64 e] 36)
  have HX := Lib.hid (bytesV_bytes f bad)
  have HLN : Hid (0 < (bytesV f bad).length) := Lib.hid (by rw [bytesV_len]; split <;> omega)
  generalize bytesV f bad = xs at *
  have HW := Lib.hid (fun (W : World) (A : Option Addr) (c : Nat) (hB : Below w.heap.size w W) (hR : ReadsInt W .u8 A xs.length xs) (hA : ∀ ad, A = some ad → w.heap.size ≤ ad.block) => rwrite_any (h.below hB) ha hpl a A c xs HX.out hR (fun ad had hg => by have := hA ad had; have := h.lt _ hg; omega))
  have HBX := Lib.hid hb0
  have k0 : (w.alloc (.cells #[.int .i64 0, .int .i64 a, .int .i64 n, .int .i64 t, .int .u8 f, .bool bad, .int .i64 e] 36)).cell? ⟨w.heap.size, 0, none⟩ = some (.int .i64 0) := (blk_cell HBX.out 0).trans rfl
  have k1 : (w.alloc (.cells #[.int .i64 0, .int .i64 a, .int .i64 n, .int .i64 t, .int .u8 f, .bool bad, .int .i64 e] 36)).cell? ⟨w.heap.size, 1, none⟩ = some (.int .i64 a) := (blk_cell HBX.out 1).trans rfl
  have k2 : (w.alloc (.cells #[.int .i64 0, .int .i64 a, .int .i64 n, .int .i64 t, .int .u8 f, .bool bad, .int .i64 e] 36)).cell? ⟨w.heap.size, 2, none⟩ = some (.int .i64 n) := (blk_cell HBX.out 2).trans rfl
  have k3 : (w.alloc (.cells #[.int .i64 0, .int .i64 a, .int .i64 n, .int .i64 t, .int .u8 f, .bool bad, .int .i64 e] 36)).cell? ⟨w.heap.size, 3, none⟩ = some (.int .i64 t) := (blk_cell HBX.out 3).trans rfl
  have k4 : (w.alloc (.cells #[.int .i64 0, .int .i64 a, .int .i64 n, .int .i64 t, .int .u8 f, .bool bad, .int .i64 e] 36)).cell? ⟨w.heap.size, 4, none⟩ = some (.int .u8 f) := (blk_cell HBX.out 4).trans rfl
  have k5 : (w.alloc (.cells #[.int .i64 0, .int .i64 a, .int .i64 n, .int .i64 t, .int .u8 f, .bool bad, .int .i64 e] 36)).cell? ⟨w.heap.size, 5, none⟩ = some (.bool bad) := (blk_cell HBX.out 5).trans rfl
  have k6 : (w.alloc (.cells #[.int .i64 0, .int .i64 a, .int .i64 n, .int .i64 t, .int .u8 f, .bool bad, .int .i64 e] 36)).cell? ⟨w.heap.size, 6, none⟩ = some (.int .i64 e) := (blk_cell HBX.out 6).trans rfl
  clear hb0 h ha hpl
  generalize writeR R a xs = res at *
  go_enter Try.func19, Try.ntmps19
  go_wp2
  -- W3
  refine start_ (n := 7) (S := fun w' => w'.cell? ⟨w.heap.size, 0, none⟩ = some (.int .i64 0) ∧ w'.cell? ⟨w.heap.size, 1, none⟩ = some (.int .i64 a) ∧ w'.cell? ⟨w.heap.size, 2, none⟩ = some (.int .i64 n) ∧ w'.cell? ⟨w.heap.size, 3, none⟩ = some (.int .i64 t) ∧ w'.cell? ⟨w.heap.size, 4, none⟩ = some (.int .u8 f) ∧ w'.cell? ⟨w.heap.size, 5, none⟩ = some (.bool bad) ∧ w'.cell? ⟨w.heap.size, 6, none⟩ = some (.int .i64 e)) (ds := [5]) #[false, false, false, false, false, false, false] (by kernel_rfl) rfl rfl ⟨k0, k1, k2, k3, k4, k5, k6⟩ (fun hHeld => ?_)
  refine pure_ (i := 0) (N := some 9) (v := ?_) (a' := ?_) #[true, false, false, false, false, false, false] rfl rfl (by kernel_rfl) (fun _ _ _ h => h) (Or.inl ⟨by rfl, ?_⟩) ?_ ?_
  rotate_left
  · intro w'
    go_simp
    with_reducible rfl
  rotate_left
  · simp only [Act.put, List.setIfInBounds_toArray, List.set_cons_zero, List.set_cons_succ, i64_w, i32_w]
    rfl
  refine pure_ (i := 1) (N := some 10) (v := ?_) (a' := ?_) #[true, true, false, false, false, false, false] rfl rfl (by kernel_rfl) (fun _ _ _ h => h) (Or.inl ⟨by rfl, ?_⟩) ?_ ?_
  rotate_left
  · intro w'
    go_simp
    with_reducible rfl
  rotate_left
  · simp only [Act.put, List.setIfInBounds_toArray, List.set_cons_zero, List.set_cons_succ, i64_w, i32_w]
    rfl
  refine take_ (i := 2) (N := some 11) (v := ?_) (a' := ?_) #[true, true, true, false, false, false, false] rfl rfl (by kernel_rfl) (fun _ _ _ h => h) (Or.inl ⟨by rfl, ?_⟩) hHeld ?_ ?_
  rotate_left
  · rintro w' ⟨s0, s1, s2, s3, s4, s5, s6⟩
    go_simp
    with_reducible rfl
  rotate_left
  · simp only [Act.put, List.setIfInBounds_toArray, List.set_cons_zero, List.set_cons_succ, i64_w, i32_w]
    rfl
  refine take_ (i := 3) (N := some 12) (v := ?_) (a' := ?_) #[true, true, true, true, false, false, false] rfl rfl (by kernel_rfl) (fun _ _ _ h => h) (Or.inl ⟨by rfl, ?_⟩) hHeld ?_ ?_
  rotate_left
  · rintro w' ⟨s0, s1, s2, s3, s4, s5, s6⟩
    go_simp
    with_reducible rfl
  rotate_left
  · simp only [Act.put, List.setIfInBounds_toArray, List.set_cons_zero, List.set_cons_succ, i64_w, i32_w]
    rfl
  refine one_ (i := 4) (N := some 13) #[true, true, true, true, true, false, false] rfl rfl (by kernel_rfl) (by decide) (fun K hK => ?_)
  refine goes_ Try.func16 (by kernel_rfl) rfl #[.agg #[.int .i64 0, .int .i64 a, .int .i64 n, .int .i64 t, .int .u8 f, .bool bad, .int .i64 e]] (by rfl) rfl rfl (by simp only [List.map_toArray, List.map_cons, List.map_nil] <;> rfl) ?_
  with_reducible refine (HBY.out _).mono ?_
  rintro e1 w1 ⟨v1, rfl, hO1, hB1⟩
  refine ⟨_, rfl, ?_⟩
  obtain ⟨g, c, rfl, hr1, hg1, hg2⟩ := orow_form hO1 HLN.out
  have HX3 := Lib.hid (below_step (b_drew (Below.refl _ _)) hB1)
  have HB3 := Lib.hid (below_step (below_first _) HX3.out)
  have HQ3 := Lib.hid (blk_below HBX.out HX3.out)
  have HR3 := Lib.hid hr1
  have HG3 : Hid (w.heap.size ≤ g) := Lib.hid (by simp at hg1; omega)
  have c30 : w1.cell? ⟨w.heap.size, 0, none⟩ = some (.int .i64 0) := (blk_cell HQ3.out 0).trans rfl
  have c31 : w1.cell? ⟨w.heap.size, 1, none⟩ = some (.int .i64 a) := (blk_cell HQ3.out 1).trans rfl
  have c32 : w1.cell? ⟨w.heap.size, 2, none⟩ = some (.int .i64 n) := (blk_cell HQ3.out 2).trans rfl
  have c33 : w1.cell? ⟨w.heap.size, 3, none⟩ = some (.int .i64 t) := (blk_cell HQ3.out 3).trans rfl
  have c34 : w1.cell? ⟨w.heap.size, 4, none⟩ = some (.int .u8 f) := (blk_cell HQ3.out 4).trans rfl
  have c35 : w1.cell? ⟨w.heap.size, 5, none⟩ = some (.bool bad) := (blk_cell HQ3.out 5).trans rfl
  have c36 : w1.cell? ⟨w.heap.size, 6, none⟩ = some (.int .i64 e) := (blk_cell HQ3.out 6).trans rfl
  clear hO1 hB1 hr1 hg1 hg2
  refine hK.out _ _ ⟨c30, c31, c32, c33, c34, c35, c36⟩ (fun hHeld => ?_)
  clear hK K
  refine norm_ (a' := ?_) ?_ ?_
  rotate_left
  · show Act.put _ (some 13) _ = _
    simp only [Act.put, List.setIfInBounds_toArray, List.set_cons_zero, List.set_cons_succ, i64_w, i32_w]
    rfl
  refine last_ (i := 5) (N := some 14) #[true, true, true, true, true, true, false] rfl rfl (by kernel_rfl) (by decide) (fun K hK => ?_)
  refine goes_ Try.func30 (by kernel_rfl) rfl #[.pointer (some ⟨x, 0, none⟩), .int .i64 a, .slice (some ⟨g, 0, none⟩) xs.length c] (by rfl) rfl rfl (by simp only [List.map_toArray, List.map_cons, List.map_nil] <;> rfl) ?_
  with_reducible refine (HW.out w1 (some ⟨g, 0, none⟩) c HB3.out HR3.out (fun ad had => by injection had with had; subst had; exact HG3.out)).mono ?_
  rintro e2 w2 ⟨rfl, hE⟩
  refine ⟨_, rfl, ?_⟩
  have HE := Lib.hid hE
  clear hE
  refine hK.out _ _ ?_
  clear hK K
  refine norm_ (a' := ?_) ?_ ?_
  rotate_left
  · show Act.put _ (some 14) _ = _
    simp only [Act.put, List.setIfInBounds_toArray, List.set_cons_zero, List.set_cons_succ, i64_w, i32_w]
    rfl
  refine pure_ (i := 6) (N := some 4) (v := ?_) (a' := ?_) #[true, true, true, true, true, true, true] rfl rfl (by kernel_rfl) (fun _ _ _ h => h) (Or.inl ⟨by rfl, ?_⟩) ?_ ?_
  rotate_left
  · intro w'
    go_simp
    with_reducible rfl
  rotate_left
  · simp only [Act.put, List.setIfInBounds_toArray, List.set_cons_zero, List.set_cons_succ, i64_w, i32_w]
    rfl
  refine done_ (by kernel_rfl) ?_
  -- ENDW3
  go_wp2
  go_ret
  refine ⟨rfl, ?_⟩
  obtain ⟨gs', h1, h2, h3⟩ := HE.out
  exact ⟨gs', h1, (Below.frame_ HB3.out).same h2, fun i hi => (h3 i hi).imp id (fun h => by have := HB3.out.size; omega)⟩
set_option maxRecDepth 100000 in
set_option maxHeartbeats 1000000 in
theorem model_sync (p : Value) (q : Int) (a n t f : Int) (bad : Bool) (e : Int) (w : World) (Fin : World → Prop)
    (HW : Hid (Calls Try.prog 31 #[p] (w.alloc (.cells #[.int .i64 1, .int .i64 a, .int .i64 n, .int .i64 t, .int .u8 f, .bool bad, .int .i64 e] 36)) fun e w2 => e = .returned (.int .i64 q) ∧ Fin w2)) :
    Calls Try.prog 19 #[p, .agg #[.int .i64 1, .int .i64 a, .int .i64 n, .int .i64 t, .int .u8 f, .bool bad, .int .i64 e]] w fun e w' => e = .returned (.int .i64 q) ∧ Fin w' := by
  go_enter Try.func19, Try.ntmps19
  go_wp2_with (first | (go_at_call 31; ((with_reducible refine HW.out.mono ?_); rintro e2 w2 ⟨rfl, hF2⟩; have HF2 := Lib.hid hF2; clear hF2)))
  go_ret
  exact ⟨rfl, HF2.out⟩
set_option maxRecDepth 100000 in
set_option maxHeartbeats 1000000 in
theorem model_crash (p : Value) (a n t f : Int) (bad : Bool) (e : Int) (w : World) (Fin : World → Prop)
    (HW : Hid (Calls Try.prog 32 #[p, .int .i64 n, .int .i64 t] (w.alloc (.cells #[.int .i64 2, .int .i64 a, .int .i64 n, .int .i64 t, .int .u8 f, .bool bad, .int .i64 e] 36)) fun e w2 => e = .returned (.tuple #[]) ∧ Fin w2)) :
    Calls Try.prog 19 #[p, .agg #[.int .i64 2, .int .i64 a, .int .i64 n, .int .i64 t, .int .u8 f, .bool bad, .int .i64 e]] w fun e w' => e = .returned (.int .i64 0) ∧ Fin w' := by
  go_enter Try.func19, Try.ntmps19
  go_wp2_with (first | (go_at_call 32; ((with_reducible refine HW.out.mono ?_); rintro e2 w2 ⟨rfl, hF2⟩; have HF2 := Lib.hid hF2; clear hF2)))
  go_ret
  exact ⟨rfl, HF2.out⟩
set_option maxRecDepth 100000 in
set_option maxHeartbeats 1000000 in
theorem model_fail (p : Value) (q : Int) (a n t f : Int) (bad : Bool) (e : Int) (w : World) (Fin : World → Prop)
    (HW : Hid (Calls Try.prog 33 #[p, .int .i64 n, .int .i64 e] (w.alloc (.cells #[.int .i64 3, .int .i64 a, .int .i64 n, .int .i64 t, .int .u8 f, .bool bad, .int .i64 e] 36)) fun e w2 => e = .returned (.int .i64 q) ∧ Fin w2)) :
    Calls Try.prog 19 #[p, .agg #[.int .i64 3, .int .i64 a, .int .i64 n, .int .i64 t, .int .u8 f, .bool bad, .int .i64 e]] w fun e w' => e = .returned (.int .i64 q) ∧ Fin w' := by
  go_enter Try.func19, Try.ntmps19
  go_wp2_with (first | (go_at_call 33; ((with_reducible refine HW.out.mono ?_); rintro e2 w2 ⟨rfl, hF2⟩; have HF2 := Lib.hid hF2; clear hF2)))
  go_ret
  exact ⟨rfl, HF2.out⟩
set_option maxRecDepth 100000 in
set_option maxHeartbeats 1000000 in
theorem model_turn (p : Value) (q : Int) (a n t f : Int) (bad : Bool) (e : Int) (w : World) (Fin : World → Prop)
    (HW : Hid (Calls Try.prog 34 #[p, .int .i64 a, .int .i64 t, .int .u8 f] (w.alloc (.cells #[.int .i64 4, .int .i64 a, .int .i64 n, .int .i64 t, .int .u8 f, .bool bad, .int .i64 e] 36)) fun e w2 => e = .returned (.int .i64 q) ∧ Fin w2)) :
    Calls Try.prog 19 #[p, .agg #[.int .i64 4, .int .i64 a, .int .i64 n, .int .i64 t, .int .u8 f, .bool bad, .int .i64 e]] w fun e w' => e = .returned (.int .i64 q) ∧ Fin w' := by
  go_enter Try.func19, Try.ntmps19
  go_wp2_with (first | (go_at_call 34; ((with_reducible refine HW.out.mono ?_); rintro e2 w2 ⟨rfl, hF2⟩; have HF2 := Lib.hid hF2; clear hF2)))
  go_ret
  exact ⟨rfl, HF2.out⟩
theorem model_else (p : Value) (k a n t f : Int) (bad : Bool) (e : Int) (w : World) (h0 : k ≠ 0) (h1 : k ≠ 1) (h2 : k ≠ 2) (h3 : k ≠ 3) (h4 : k ≠ 4) :
    Calls Try.prog 19 #[p, .agg #[.int .i64 k, .int .i64 a, .int .i64 n, .int .i64 t, .int .u8 f, .bool bad, .int .i64 e]] w fun e' w' => e' = .returned (.int .i64 0) ∧ w' = w.alloc (.cells #[.int .i64 k, .int .i64 a, .int .i64 n, .int .i64 t, .int .u8 f, .bool bad, .int .i64 e] 36) := by
  have b0 : (k == 0) = false := beq_eq_false_iff_ne.mpr h0
  have b1 : (k == 1) = false := beq_eq_false_iff_ne.mpr h1
  have b2 : (k == 2) = false := beq_eq_false_iff_ne.mpr h2
  have b3 : (k == 3) = false := beq_eq_false_iff_ne.mpr h3
  have b4 : (k == 4) = false := beq_eq_false_iff_ne.mpr h4
  clear h0 h1 h2 h3 h4
  go_enter Try.func19, Try.ntmps19
  go_wp2
  go_ret
  exact ⟨rfl, rfl⟩
def modelR (R : RS) (o : OpV) : Int × RS :=
  if o.kind = 0 then writeR R o.at_ (bytesV o.fill o.bad) else if o.kind = 1 then syncR R else if o.kind = 2 then (0, crashR R o.n o.torn) else if o.kind = 3 then failR R o.n o.e else if o.kind = 4 then turnR R o.at_ o.torn o.fill else (0, R)
theorem model_any (x : Nat) (R : RS) (gs : Nat → Prop) (o : OpV) (w : World) (h : RefAt w x R gs) (ho : o.Ok) (ha : R.after ≤ 9223372036854775807) (hpl : R.sure.length + R.pend.length ≤ 1000000000) :
    Calls Try.prog 19 #[.pointer (some ⟨x, 0, none⟩), .agg o.cells] w fun e w' => e = .returned (.int .i64 (modelR R o).1) ∧ REff w x gs (modelR R o).2 w' := by
  obtain ⟨k, a, n, t, f, bad, e⟩ := o
  have h2 := fun cs t => h.below (below_first (w := w) (.cells cs t))
  unfold modelR OpV.cells
  simp only []
  by_cases h0 : k = 0
  · subst h0
    rw [if_pos rfl]
    exact model_write a n t f bad e w h ha (by omega)
  rw [if_neg h0]
  by_cases h1 : k = 1
  · subst h1
    rw [if_pos rfl]
    exact model_sync _ _ a n t f bad e w (fun w' => REff w x gs (syncR R).2 w') (Lib.hid ((rsync_any (h2 _ _) ha hpl).mono fun e2 w2 h9 => ⟨h9.1, h9.2.first⟩))
  rw [if_neg h1]
  by_cases h3 : k = 2
  · subst h3
    rw [if_pos rfl]
    exact model_crash _ a n t f bad e w (fun w' => REff w x gs (crashR R n t) w') (Lib.hid ((rcrash_any (h2 _ _) n t hpl).mono fun e2 w2 h9 => ⟨h9.1, h9.2.first⟩))
  rw [if_neg h3]
  by_cases h4 : k = 3
  · subst h4
    rw [if_pos rfl]
    exact model_fail _ _ a n t f bad e w (fun w' => REff w x gs (failR R n e).2 w') (Lib.hid ((rfail_eff (h2 _ _) n e).mono fun e2 w2 h9 => ⟨h9.1, h9.2.first⟩))
  rw [if_neg h4]
  by_cases h5 : k = 4
  · subst h5
    rw [if_pos rfl]
    exact model_turn _ _ a n t f bad e w (fun w' => REff w x gs (turnR R a t f).2 w') (Lib.hid ((rturn_any (h2 _ _) (by omega) a t f ho).mono fun e2 w2 h9 => ⟨h9.1, h9.2.first⟩))
  rw [if_neg h5]
  refine (model_else _ k a n t f bad e w h0 h1 h3 h4 h5).mono ?_
  rintro e2 w2 ⟨rfl, rfl⟩
  obtain ⟨vs, vp, es, ep, hv, hn⟩ := h2 #[.int .i64 k, .int .i64 a, .int .i64 n, .int .i64 t, .int .u8 f, .bool bad, .int .i64 e] 36
  exact ⟨rfl, (REff.of hv hn (Frame.refl _ _)).first⟩
end Go.Proofs.Ytfjeincceglfoaa
