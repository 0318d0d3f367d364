/- disk: the document's plan, Fail, New, Now, Read. -/
import Derived.Test.YtlmdghafiadgjaaRdA
import Derived.Test.YtlmdghafiadgjaaWLast
namespace Go.Proofs.Ytlmdghafiadgjaa
set_option linter.unusedVariables false
set_option linter.unusedSimpArgs false
open Go.RowKit Go.Proofs.YtlmdghafiadgjaaW.PrintWords Go.Proofs.YtlmdghafiadgjaaW.PrintLast

def planR (R : RS) : Int × RS := if R.after < 0 then (0, R) else if R.after < 1 then (R.err, { R with after := R.after - 1 }) else (0, { R with after := R.after - 1 })
set_option maxRecDepth 100000 in
set_option maxHeartbeats 1000000 in
theorem rplan_any {x : Nat} {vs vp : Value} {es ep : List En} {R : RS} {gs : Nat → Prop} {w : World} (h : RdV w x vs vp es ep R gs) (ha : R.after ≤ 9223372036854775807) :
    Calls Try.prog 60 #[.pointer (some ⟨x, 0, none⟩)] w fun e w' => e = .returned (.int .i64 (planR R).1) ∧ RdV w' x vs vp es ep (planR R).2 gs ∧ Frame gs w w' := by
  have H := Lib.hid h
  have c3 : w.cell? ⟨x, 3, none⟩ = some (.int .i64 R.after) := (blk_cell h.blk 3).trans rfl
  have c4 : w.cell? ⟨x, 4, none⟩ = some (.int .i64 R.err) := (blk_cell h.blk 4).trans rfl
  have z3 := blk_frozen h.blk 3
  clear h
  unfold planR
  by_cases h1 : R.after < 0
  · rw [if_pos h1]
    go_enter Try.func60, Try.ntmps60
    go_wp2
    go_ret
    exact ⟨rfl, H.out, Frame.refl _ _⟩
  · rw [if_neg h1]
    have HS := Lib.hid (H.out.nums_ (R' := { R with after := R.after - 1 }) 3 (.int .i64 (R.after - 1)) rfl rfl rfl)
    have m3 : (w.setCell ⟨x, 3, none⟩ (.int .i64 (R.after - 1))).cell? ⟨x, 3, none⟩ = some (.int .i64 (R.after - 1)) := (blk_cell HS.out.blk 3).trans rfl
    have m4 : (w.setCell ⟨x, 3, none⟩ (.int .i64 (R.after - 1))).cell? ⟨x, 4, none⟩ = some (.int .i64 R.err) := (blk_cell HS.out.blk 4).trans rfl
    by_cases h2 : R.after < 1
    · rw [if_pos h2]
      go_enter Try.func60, Try.ntmps60
      go_wp2
      go_ret
      exact ⟨rfl, HS.out, (Frame.refl _ _).setCell (.inl H.out.self) _⟩
    · rw [if_neg h2]
      go_enter Try.func60, Try.ntmps60
      go_wp2
      go_ret
      exact ⟨rfl, HS.out, (Frame.refl _ _).setCell (.inl H.out.self) _⟩
def failR (R : RS) (a e : Int) : Int × RS := if e = 160 ∨ e = 7 then (0, { R with after := if a < 0 then -1 else a, err := e }) else (1, R)
set_option maxRecDepth 100000 in
set_option maxHeartbeats 1000000 in
theorem rfail_any {x : Nat} {vs vp : Value} {es ep : List En} {R : RS} {gs : Nat → Prop} {w : World} (h : RdV w x vs vp es ep R gs) (a e0 : Int) :
    Calls Try.prog 27 #[.pointer (some ⟨x, 0, none⟩), .int .i64 a, .int .i64 e0] w fun e w' => e = .returned (.int .i64 (failR R a e0).1) ∧ RdV w' x vs vp es ep (failR R a e0).2 gs ∧ Frame gs w w' := by
  have H := Lib.hid h
  have z3 := blk_frozen h.blk 3
  have z4 := blk_frozen h.blk 4
  have c3 : w.cell? ⟨x, 3, none⟩ = some (.int .i64 R.after) := (blk_cell h.blk 3).trans rfl
  have c4 : w.cell? ⟨x, 4, none⟩ = some (.int .i64 R.err) := (blk_cell h.blk 4).trans rfl
  clear h
  unfold failR
  by_cases he : e0 = 160 ∨ e0 = 7
  · rw [if_pos he]
    have H1 := fun y => H.out.nums_ (R' := { R with after := y }) 3 (.int .i64 y) rfl rfl rfl
    have H2 := fun y => (H1 y).nums_ (R' := { R with after := y, err := e0 }) 4 (.int .i64 e0) rfl rfl rfl
    have H3 := Lib.hid (fun y z => (H2 y).nums_ (R' := { R with after := z, err := e0 }) 3 (.int .i64 z) rfl rfl rfl)
    have H2 := Lib.hid H2
    clear H1
    by_cases h1 : a < 0
    · rw [if_pos h1]
      rcases he with rfl | rfl
      all_goals
        go_enter Try.func27, Try.ntmps27
        go_wp2
        go_ret
        exact ⟨rfl, H3.out _ _, (((Frame.refl _ _).setCell (.inl H.out.self) _).setCell (.inl H.out.self) _).setCell (.inl H.out.self) _⟩
    · rw [if_neg h1]
      rcases he with rfl | rfl
      all_goals
        go_enter Try.func27, Try.ntmps27
        go_wp2
        go_ret
        exact ⟨rfl, H2.out _, ((Frame.refl _ _).setCell (.inl H.out.self) _).setCell (.inl H.out.self) _⟩
  · rw [if_neg he]
    have b1 : (e0 != 160) = true := bne_iff_ne.mpr (fun h => he (.inl h))
    have b2 : (e0 != 7) = true := bne_iff_ne.mpr (fun h => he (.inr h))
    clear he
    go_enter Try.func27, Try.ntmps27
    go_wp2
    go_ret
    exact ⟨rfl, H.out, Frame.refl _ _⟩
def newR (n : Int) : RS := ⟨n, [], [], -1, 0⟩
set_option maxRecDepth 100000 in
set_option maxHeartbeats 1000000 in
theorem rnew_no (n : Int) (w : World) (h : n < 1 ∨ (1 ≤ n ∧ 65536 < n)) : Calls Try.prog 22 #[.int .i64 n] w fun e w' => e = .returned (.tuple #[.pointer none, .int .i64 1]) ∧ w = w' := by
  rcases h with h | ⟨h, h2⟩
  all_goals
    go_enter Try.func22, Try.ntmps22
    go_wp2
    go_ret2
    exact ⟨rfl, rfl⟩
set_option maxRecDepth 100000 in
set_option maxHeartbeats 1000000 in
theorem rnew_yes (n : Int) (w : World) (h : 1 ≤ n) (h2 : n ≤ 65536) : Calls Try.prog 22 #[.int .i64 n] w fun e w' => e = .returned (.tuple #[.pointer (some ⟨w.heap.size, 0, none⟩), .int .i64 0]) ∧ RefAt w' w.heap.size (newR n) (fun i => i = w.heap.size) ∧ Below w.heap.size w w' := by
  go_enter Try.func22, Try.ntmps22
  go_wp2
  go_ret2
  refine ⟨rfl, ⟨.slice none 0 0, .slice none 0 0, [], [], ⟨?_, own_nil _ _ _ _, own_nil _ _ _ _, fun e he => by simp at he, .inl rfl, rfl, rfl, ?_⟩, List.nodup_nil⟩, below_first _⟩
  · exact heap_alloc_last w _
  · intro i; simp [Value.ownBlock]
theorem copy_row {w : World} {base : Nat} {v : Value} {xs : List Int} (h : ORow .u8 5 w base v xs) (hx : Blk xs) :
    Calls Try.prog 35 #[v] w fun e w' => ∃ v, e = .returned v ∧ ORow .u8 5 w' w.heap.size v xs ∧ Below w.heap.size w w' := by
  obtain ⟨A, c, rfl, hc, hr⟩ := h.reads
  exact copy_any A xs.length c xs w hr (by rw [hx.1]; decide)
theorem make256 (W : World) : (Instr.makeSlice 23 (.int .i64 256) (.int .i64 256)).run Try.prog W = .ok (.slice (some ⟨W.heap.size, 0, none⟩) 256 256) (W.alloc (.cells (madeCells #[.int .u8 0] 256) 5)) :=
  print_make_int (P := Try.prog) 23 5 (.int .u8 0) 1 Try.underlying23 infoU8 rfl (by decide) 256 (by decide) (by decide) W
theorem made256 (W : World) : ORow .u8 5 (W.alloc (.cells (madeCells #[.int .u8 0] 256) 5)) 0 (.slice (some ⟨W.heap.size, 0, none⟩) 256 256) z256 := own_made' W 0 5 .u8 256 (Nat.zero_le _) (by decide)
def nowR (R : RS) (i : Int) : List Int := nowP R.pend i (nowP R.sure i z256)
/-- What last tells of the sure writes. -/
theorem RdV.last_sure {w : World} {x : Nat} {vs vp : Value} {es ep : List En} {R : RS} {gs : Nat → Prop} (h : RdV w x vs vp es ep R gs) (i : Int) {v : Value} {xs : List Int} (hv : ORow .u8 5 w 0 v xs) (hx : Blk xs) : ORow .u8 5 w 0 (lastE es i v) (nowP R.sure i xs) ∧ Blk (nowP R.sure i xs) := by
  rw [h.sure]
  exact lastE_at (fun e he => h.en e (by simp [he])) i hv hx
theorem RdV.last_pend {w : World} {x : Nat} {vs vp : Value} {es ep : List En} {R : RS} {gs : Nat → Prop} (h : RdV w x vs vp es ep R gs) (i : Int) {v : Value} {xs : List Int} (hv : ORow .u8 5 w 0 v xs) (hx : Blk xs) : ORow .u8 5 w 0 (lastE ep i v) (nowP R.pend i xs) ∧ Blk (nowP R.pend i xs) := by
  rw [h.pend]
  exact lastE_at (fun e he => h.en e (by simp [he])) i hv hx
set_option maxRecDepth 100000 in
set_option maxHeartbeats 1000000 in
theorem now_any {x : Nat} {vs vp : Value} {es ep : List En} {R : RS} {gs : Nat → Prop} {w : World} (h : RdV w x vs vp es ep R gs) (i : Int) :
    Calls Try.prog 58 #[.pointer (some ⟨x, 0, none⟩), .int .i64 i] w fun e w' => ∃ v, e = .returned v ∧ ORow .u8 5 w' w.heap.size v (nowR R i) ∧ Below w.heap.size w w' := by
  have c1 : w.cell? ⟨x, 1, none⟩ = some vs := (blk_cell h.blk 1).trans rfl
  have km := make256
  have HM : Hid (ORow .u8 5 ((w.alloc (.cells (madeCells #[.int .u8 0] 256) 5)).drew) 0 (.slice (some ⟨w.heap.size, 0, none⟩) 256 256) z256) := Lib.hid (ORow.drew (made256 w))
  have HB1 : Hid (Below w.heap.size w ((w.alloc (.cells (madeCells #[.int .u8 0] 256) 5)).drew)) := Lib.hid (b_drew ((Below.refl _ _).alloc (Nat.le_refl _) _))
  have H1 := Lib.hid (h.below HB1.out)
  have HL1 := Lib.hid (fun vb => last_any es vs i vb _ H1.out.se)
  have HL2 := Lib.hid (fun vb => last_any ep vp i vb _ H1.out.pe)
  have hr1 := H1.out.last_sure i HM.out z256_blk
  have hr2 := H1.out.last_pend i hr1.1 hr1.2
  have HC := Lib.hid (copy_row hr2.1 hr2.2)
  have m2 : ((w.alloc (.cells (madeCells #[.int .u8 0] 256) 5)).drew).cell? ⟨x, 2, none⟩ = some vp := (blk_cell H1.out.blk 2).trans rfl
  have m1 : ((w.alloc (.cells (madeCells #[.int .u8 0] 256) 5)).drew).cell? ⟨x, 1, none⟩ = some vs := (blk_cell H1.out.blk 1).trans rfl
  clear h hr1 hr2 HM
  go_enter Try.func58, Try.ntmps58
  go_wp2
  -- W1
  refine start_ (n := 8) (S := fun w' => w'.cell? ⟨x, 1, none⟩ = some vs) (ds := []) #[false, false, false, false, false, false, false, false] (by kernel_rfl) rfl rfl (c1) (fun hHeld => ?_)
  refine pure_ (i := 0) (N := some 6) (v := ?_) (a' := ?_) #[true, false, false, false, false, false, false, false] rfl rfl (by kernel_rfl) (fun _ _ _ h => h) (Or.inl ⟨by rfl, ?_⟩) ?_ ?_
  rotate_left
  · intro w'
    go_simp
    with_reducible rfl
  rotate_left
  · simp only [Act.put, List.setIfInBounds_toArray, List.set_cons_zero, List.set_cons_succ, i64_w, i32_w]
    rfl
  refine pure_ (i := 1) (N := some 7) (v := ?_) (a' := ?_) #[true, true, false, false, false, false, false, false] rfl rfl (by kernel_rfl) (fun _ _ _ h => h) (Or.inl ⟨by rfl, ?_⟩) ?_ ?_
  rotate_left
  · intro w'
    go_simp
    with_reducible rfl
  rotate_left
  · simp only [Act.put, List.setIfInBounds_toArray, List.set_cons_zero, List.set_cons_succ, i64_w, i32_w]
    rfl
  refine pure_ (i := 2) (N := some 8) (v := ?_) (a' := ?_) #[true, true, true, false, false, false, false, false] rfl rfl (by kernel_rfl) (fun _ _ _ h => h) (Or.inl ⟨by rfl, ?_⟩) ?_ ?_
  rotate_left
  · intro w'
    go_simp
    with_reducible rfl
  rotate_left
  · simp only [Act.put, List.setIfInBounds_toArray, List.set_cons_zero, List.set_cons_succ, i64_w, i32_w]
    rfl
  refine pure_ (i := 4) (N := some 10) (v := ?_) (a' := ?_) #[true, true, true, false, true, false, false, false] rfl rfl (by kernel_rfl) (fun _ _ _ h => h) (Or.inl ⟨by rfl, ?_⟩) ?_ ?_
  rotate_left
  · intro w'
    go_simp
    with_reducible rfl
  rotate_left
  · simp only [Act.put, List.setIfInBounds_toArray, List.set_cons_zero, List.set_cons_succ, i64_w, i32_w]
    rfl
  refine take_ (i := 3) (N := some 9) (v := ?_) (a' := ?_) #[true, true, true, true, true, false, false, false] rfl rfl (by kernel_rfl) (fun _ _ _ h => h) (Or.inl ⟨by rfl, ?_⟩) hHeld ?_ ?_
  rotate_left
  · intro w' s0
    go_simp
    with_reducible rfl
  rotate_left
  · simp only [Act.put, List.setIfInBounds_toArray, List.set_cons_zero, List.set_cons_succ, i64_w, i32_w]
    rfl
  refine one_ (i := 5) (N := some 11) #[true, true, true, true, true, true, false, false] rfl rfl (by kernel_rfl) (by decide) (fun K hK => ?_)
  refine value_ (w1 := ?_) (v := ?_) (by rfl) rfl ?_ ?_
  rotate_left 2
  · go_simp
    constructor
    · rfl
    · rfl
  refine hK.out _ _ (m1) (fun hHeld => ?_)
  clear hK K
  refine norm_ (a' := ?_) ?_ ?_
  rotate_left
  · show Act.put _ (some 11) _ = _
    simp only [Act.put, List.setIfInBounds_toArray, List.set_cons_zero, List.set_cons_succ, i64_w, i32_w]
    rfl
  refine one_ (i := 6) (N := some 12) #[true, true, true, true, true, true, true, false] rfl rfl (by kernel_rfl) (by decide) (fun K hK => ?_)
  refine goes_ Try.func53 (by kernel_rfl) rfl #[vs, .int .i64 i, .slice (some ⟨w.heap.size, 0, none⟩) 256 256] (by rfl) rfl rfl (by simp only [List.map_toArray, List.map_cons, List.map_nil] <;> rfl) ?_
  with_reducible refine (HL1.out _).mono ?_
  rintro e w2 ⟨rfl, rfl⟩
  refine ⟨_, rfl, ?_⟩
  refine hK.out _ _ (m1) (fun hHeld => ?_)
  clear hK K
  refine norm_ (a' := ?_) ?_ ?_
  rotate_left
  · show Act.put _ (some 12) _ = _
    simp only [Act.put, List.setIfInBounds_toArray, List.set_cons_zero, List.set_cons_succ, i64_w, i32_w]
    rfl
  refine pure_ (i := 7) (N := some 5) (v := ?_) (a' := ?_) #[true, true, true, true, true, true, true, true] rfl rfl (by kernel_rfl) (fun _ _ _ h => h) (Or.inl ⟨by rfl, ?_⟩) ?_ ?_
  rotate_left
  · intro w'
    go_simp
    with_reducible rfl
  rotate_left
  · simp only [Act.put, List.setIfInBounds_toArray, List.set_cons_zero, List.set_cons_succ, i64_w, i32_w]
    rfl
  refine done_ (by kernel_rfl) ?_
  -- ENDW1
  go_wp2_with (first
    | (go_at_call 53; ((with_reducible refine (HL2.out _).mono ?_); rintro e w3 ⟨rfl, rfl⟩))
    | (go_at_call 35; ((with_reducible refine HC.out.mono ?_); rintro e w4 ⟨v4, rfl, hO, hB⟩; have HO4 := Lib.hid hO; have HB4 := Lib.hid (below_then HB1.out HB1.out.size hB); clear hO hB)))
  go_ret
  exact ⟨v4, rfl, HO4.out.lower HB1.out.size, HB4.out⟩
/-- A list that has got one write more: of those that are pending. -/
theorem RdV.pended {w w3 : World} {x : Nat} {vs vp v1 : Value} {es ep : List En} {R : RS} {gs : Nat → Prop} {E : En} (h : RdV w x vs vp es ep R gs) (hE : EnAt w E)
    (hO : w3.ownsRow 0 92 2 v1 (ep.length + 1) (ep.flatMap ecells ++ ecells E)) (hG : w.grownBy w3 vp.ownBlock) (hA : v1.ownBlock = vp.ownBlock ∨ ∃ b, v1.ownBlock = some b ∧ w.heap.size ≤ b) :
    RdV (w3.setCell ⟨x, 2, none⟩ v1) x vs v1 es (ep ++ [E]) { R with pend := R.pend ++ [(E.at_, E.xs)] } (fun i => i = x ∨ vs.ownBlock = some i ∨ v1.ownBlock = some i ∨ ∃ e ∈ es ++ (ep ++ [E]), e.v.ownBlock = some i) := by
  obtain ⟨n1, n2, n3⟩ := h.xne
  have hb3 := (hG.block x (blk_lt h.blk) n2).trans h.blk
  have hE3 : EnAt w3 E := ⟨own_other hE.1 hG (own_apart hE.1 h.pe (by decide)), hE.2⟩
  have hen : ∀ e ∈ es ++ (ep ++ [E]), EnAt w3 e := by
    intro e he
    rw [← List.append_assoc] at he
    rcases List.mem_append.1 he with he | he
    · exact ⟨own_other (h.en e he).1 hG (own_apart (h.en e he).1 h.pe (by decide)), (h.en e he).2⟩
    · rw [List.mem_singleton.1 he]; exact hE3
  have hO' : EsAt w3 v1 (ep ++ [E]) := by
    unfold EsAt
    rw [List.length_append, List.flatMap_append]
    simpa using hO
  refine ⟨blk_set hb3 2 v1, own_setCell (own_other h.se hG h.sep) n1 _, own_setCell hO' (own_ne hO' hb3 (by decide)) _, fun e he => ⟨own_setCell (hen e he).1 (own_ne (hen e he).1 hb3 (by decide)) _, (hen e he).2⟩, ?_, h.sure, ?_, fun i => Iff.rfl⟩
  · rcases h.sep with h0 | h0
    · exact .inl h0
    · rcases hA with hA | ⟨b, hA, hb⟩
      · exact .inr (by rw [hA]; exact h0)
      · refine .inr (fun e => ?_)
        have := own_lt h.se b (e.trans hA)
        omega
  · show R.pend ++ [(E.at_, E.xs)] = prs (ep ++ [E])
    rw [h.pend]; simp [prs]
theorem RdV.sured {w w3 : World} {x : Nat} {vs vp v1 : Value} {es ep : List En} {R : RS} {gs : Nat → Prop} {E : En} (h : RdV w x vs vp es ep R gs) (hE : EnAt w E)
    (hO : w3.ownsRow 0 92 2 v1 (es.length + 1) (es.flatMap ecells ++ ecells E)) (hG : w.grownBy w3 vs.ownBlock) (hA : v1.ownBlock = vs.ownBlock ∨ ∃ b, v1.ownBlock = some b ∧ w.heap.size ≤ b) :
    RdV (w3.setCell ⟨x, 1, none⟩ v1) x v1 vp (es ++ [E]) ep { R with sure := R.sure ++ [(E.at_, E.xs)] } (fun i => i = x ∨ v1.ownBlock = some i ∨ vp.ownBlock = some i ∨ ∃ e ∈ (es ++ [E]) ++ ep, e.v.ownBlock = some i) := by
  obtain ⟨n1, n2, n3⟩ := h.xne
  have hb3 := (hG.block x (blk_lt h.blk) n1).trans h.blk
  have hsep : vp.ownBlock = none ∨ vp.ownBlock ≠ vs.ownBlock := by
    rcases h.sep with h0 | h0
    · rcases hp : vp.ownBlock with _ | b
      · exact .inl rfl
      · exact .inr (by rw [h0]; simp)
    · exact .inr h0.symm
  have hE3 : EnAt w3 E := ⟨own_other hE.1 hG (own_apart hE.1 h.se (by decide)), hE.2⟩
  have hen : ∀ e ∈ (es ++ [E]) ++ ep, EnAt w3 e := by
    intro e he
    have hm : e = E ∨ e ∈ es ++ ep := by
      simp only [List.mem_append, List.mem_singleton] at he ⊢
      rcases he with (he | he) | he
      · exact .inr (.inl he)
      · exact .inl he
      · exact .inr (.inr he)
    rcases hm with rfl | he
    · exact hE3
    · exact ⟨own_other (h.en e he).1 hG (own_apart (h.en e he).1 h.se (by decide)), (h.en e he).2⟩
  have hO' : EsAt w3 v1 (es ++ [E]) := by
    unfold EsAt
    rw [List.length_append, List.flatMap_append]
    simpa using hO
  refine ⟨blk_set hb3 1 v1, own_setCell hO' (own_ne hO' hb3 (by decide)) _, own_setCell (own_other h.pe hG hsep) n2 _, fun e he => ⟨own_setCell (hen e he).1 (own_ne (hen e he).1 hb3 (by decide)) _, (hen e he).2⟩, ?_, ?_, h.pend, fun i => Iff.rfl⟩
  · rcases hA with hA | ⟨b, hA, hb⟩
    · rw [hA]; exact h.sep
    · refine .inr (fun e => ?_)
      have := own_lt h.pe b (e.symm.trans hA)
      omega
  · show R.sure ++ [(E.at_, E.xs)] = prs (es ++ [E])
    rw [h.sure]; simp [prs]
theorem infoWr28 : (Try.prog.info? 92).map (fun i => (i.zero, i.size, i.bytes)) = some (some (.agg #[.int .i64 0, .slice none 0 0]), 2, 32) := by kernel_rfl
end Go.Proofs.Ytlmdghafiadgjaa
