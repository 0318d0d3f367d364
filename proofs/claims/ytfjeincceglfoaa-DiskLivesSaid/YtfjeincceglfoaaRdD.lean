/- disk: the document's Turn. -/
import Derived.Test.YtfjeincceglfoaaRdC
namespace Go.Proofs.Ytfjeincceglfoaa
set_option linter.unusedVariables false
set_option linter.unusedSimpArgs false
open Go.RowKit Go.Proofs.YtfjeincceglfoaaW.PrintWords Go.Proofs.YtfjeincceglfoaaW.PrintLast

/-- The first k are done. -/
def mapK {α : Type} (f : α → α) (k : Nat) (l : List α) : List α := (l.take k).map f ++ l.drop k
theorem mapK_len {α : Type} (f : α → α) (k : Nat) (l : List α) : (mapK f k l).length = l.length := by
  simp only [mapK, List.length_append, List.length_map, List.length_take, List.length_drop]; omega
theorem mapK_zero {α : Type} (f : α → α) (l : List α) : mapK f 0 l = l := by simp [mapK]
theorem mapK_full {α : Type} (f : α → α) (l : List α) : mapK f l.length l = l.map f := by simp [mapK]
theorem mapK_at {α : Type} (f : α → α) (k : Nat) (l : List α) (h : k < l.length) : mapK f k l = (l.take k).map f ++ l[k] :: l.drop (k + 1) := by rw [mapK, List.drop_eq_getElem_cons h]
theorem mapK_succ {α : Type} (f : α → α) (k : Nat) (l : List α) (h : k < l.length) : mapK f (k + 1) l = (l.take k).map f ++ f l[k] :: l.drop (k + 1) := by
  rw [mapK, List.take_succ_eq_append_getElem h, List.map_append, List.append_assoc]; rfl
def turnE (i : Int) (p : Nat) (y : Int) (e : En) : En := if e.at_ = i then ⟨e.at_, e.v, xorB e.xs p y⟩ else e
theorem turnE_own (i : Int) (p : Nat) (y : Int) (e : En) : own (turnE i p y e) = own e := by unfold turnE; split <;> rfl
theorem mapK_own (i : Int) (p : Nat) (y : Int) (k : Nat) (l : List En) : (mapK (turnE i p y) k l).map own = l.map own := by
  have h : own ∘ turnE i p y = own := by funext e; exact turnE_own i p y e
  rw [mapK, List.map_append, List.map_map, h, ← List.map_append, List.take_append_drop]
theorem mapK_get {α : Type} (f : α → α) (k : Nat) (l : List α) (h : k < l.length) : (mapK f k l)[k]'(by rw [mapK_len]; exact h) = l[k] := by
  have hl : ((l.take k).map f).length = k := by simp; omega
  simp only [mapK]
  rw [List.getElem_append_right (by omega)]
  simp only [hl, Nat.sub_self, List.getElem_drop, Nat.add_zero]
theorem RdV.sured_new {w : World} {x B : Nat} {vs vp v1 : Value} {es ep : List En} {R : RS} {gs hs : Nat → Prop} {E : En} (h : RdV w x vs vp es ep R gs) (hA : v1.ownBlock = vs.ownBlock ∨ ∃ b, v1.ownBlock = some b ∧ w.heap.size ≤ b)
    (hgs : ∀ i, gs i → hs i ∨ B ≤ i) (hB : B ≤ w.heap.size) (hE : ∀ j, own E = some j → hs j ∨ B ≤ j) : ∀ i, (i = x ∨ v1.ownBlock = some i ∨ vp.ownBlock = some i ∨ ∃ e ∈ (es ++ [E]) ++ ep, e.v.ownBlock = some i) → hs i ∨ B ≤ i := by
  rintro j (rfl | hj | hj | ⟨e, he, hj⟩)
  · exact hgs _ h.self
  · rcases hA with ha | ⟨b, ha, hb⟩
    · exact hgs _ ((h.foot j).2 (.inr (.inl (ha ▸ hj))))
    · rw [ha] at hj
      injection hj with hj
      exact .inr (by omega)
  · exact hgs _ ((h.foot j).2 (.inr (.inr (.inl hj))))
  · have hm : e = E ∨ e ∈ es ++ ep := by
      simp only [List.mem_append, List.mem_singleton] at he ⊢
      rcases he with (he | he) | he
      · exact .inr (.inl he)
      · exact .inl he
      · exact .inr (.inr he)
    rcases hm with rfl | he
    · exact hE j hj
    · exact hgs _ ((h.foot j).2 (.inr (.inr (.inr ⟨e, he, hj⟩))))
/-- A row's byte. -/
theorem row_byte {w : World} {base g n c : Nat} {xs : List Int} (h : ORow .u8 5 w base (.slice (some ⟨g, 0, none⟩) n c) xs) (j : Nat) (hj : j < xs.length) : w.cell? ⟨g, j, none⟩ = some (.int .u8 (rd xs (j : Int))) ∧ w.frozen? ⟨g, j, none⟩ = false := by
  have e : (⟨g, 0, none⟩ : Addr).add j = ⟨g, j, none⟩ := by unfold Addr.add; split <;> simp_all
  have h1 := World.ownsRow.cells h (g := g) rfl j (.int .u8 (rd xs (j : Int))) (by rw [rd_lt xs j hj]; simp [nums, hj])
  rw [e] at h1
  refine ⟨h1, ?_⟩
  rcases h.2 with ⟨h2, _⟩ | ⟨g', cap, cur, h2, _, hh, _⟩
  · cases h2
  · injection h2 with e1 e2 e3
    injection e1 with e1
    injection e1 with e1 _ _
    subst e1
    exact blk_frozen hh j
theorem row_put {w : World} {base g n c : Nat} {xs : List Int} (h : ORow .u8 5 w base (.slice (some ⟨g, 0, none⟩) n c) xs) (hn : n = xs.length) (p : Nat) (u : Int) : ORow .u8 5 (w.setCell ⟨g, p, none⟩ (.int .u8 u)) base (.slice (some ⟨g, 0, none⟩) n c) (xs.set p u) := by
  subst hn
  have h2 := own_put h (p : Int) u
  rw [Int.toNat_natCast] at h2
  unfold ORow
  rw [List.length_set] at h2 ⊢
  exact h2
theorem prs_turn (i : Int) (p : Nat) (y : Int) (l : List En) : prs (l.map (turnE i p y)) = (prs l).map (turnP i p y) := by
  unfold prs
  rw [List.map_map, List.map_map]
  refine List.map_congr_left fun e _ => ?_
  simp only [Function.comp, turnE, turnP]
  split <;> rfl
def turnR (R : RS) (i place y : Int) : Int × RS :=
  if hasV R.size i ≠ 0 ∨ place < 0 ∨ 256 ≤ place then (1, R)
  else (0, { R with sure := R.sure ++ [(i, xorB (nowP R.sure i z256) place.toNat y)], pend := R.pend.map (turnP i place.toNat y) })
/-- One byte of one pending write is turned. -/
theorem RdV.byte {w : World} {x : Nat} {vs vp : Value} {es ys bs : List En} {E : En} {R : RS} {gs : Nat → Prop} {g cap : Nat} (h : RdV w x vs vp es (ys ++ E :: bs) R gs) (hnd : ((es ++ (ys ++ E :: bs)).map own).Nodup) (hv : E.v = .slice (some ⟨g, 0, none⟩) 256 cap) (p : Nat) (u : Int) (hu : 0 ≤ u ∧ u ≤ 255) :
    RdV (w.setCell ⟨g, p, none⟩ (.int .u8 u)) x vs vp es (ys ++ ⟨E.at_, E.v, E.xs.set p u⟩ :: bs) { R with pend := prs (ys ++ ⟨E.at_, E.v, E.xs.set p u⟩ :: bs) } gs := by
  have hE := h.en E (by simp)
  have hoE : own E = some g := by unfold own; rw [hv]; rfl
  have hxg : x ≠ g := fun e => h.xne.2.2 E (by simp) (by rw [e]; exact hoE.symm)
  have hgs : some g ≠ vs.ownBlock := by
    intro e
    rcases own_apart h.se hE.1 (by decide) with h0 | h0
    · rw [h0] at e; cases e
    · exact h0 (e.symm.trans hoE.symm)
  have hgp : some g ≠ vp.ownBlock := by
    intro e
    rcases own_apart h.pe hE.1 (by decide) with h0 | h0
    · rw [h0] at e; cases e
    · exact h0 (e.symm.trans hoE.symm)
  have hcells : (ys ++ ⟨E.at_, E.v, E.xs.set p u⟩ :: bs).flatMap ecells = (ys ++ E :: bs).flatMap ecells := by simp [ecells]
  have hmem : ∀ e ∈ es ++ (ys ++ E :: bs), own e = some g → e ∈ es ++ ys ++ bs → False := by
    intro e _ he hm
    have h2 : ((es ++ ys ++ bs).map own ++ [own E]).Nodup := by
      have hp : ((es ++ (ys ++ E :: bs)).map own).Perm ((es ++ ys ++ bs).map own ++ [own E]) := by
        rw [show (es ++ ys ++ bs).map own ++ [own E] = (es ++ ys ++ bs ++ [E]).map own by simp]
        refine List.Perm.map own ?_
        rw [List.append_assoc, List.append_assoc]
        refine List.Perm.append_left es (List.Perm.append_left ys ?_)
        exact (List.perm_append_singleton E bs).symm
      exact (hp.nodup_iff).1 hnd
    obtain ⟨_, _, h3⟩ := List.nodup_append.1 h2
    exact h3 (own e) (List.mem_map.2 ⟨e, hm, rfl⟩) (own E) (by simp) (he.trans hoE.symm)
  refine ⟨blk_far h.blk hxg _, own_setCell h.se hgs _, ?_, fun e he => ?_, h.sep, h.sure, rfl, fun i => ?_⟩
  · have h2 := own_setCell h.pe (p := ⟨g, p, none⟩) hgp (.int .u8 u)
    unfold EsAt
    rw [hcells]
    simpa using h2
  · simp only [List.mem_append, List.mem_cons] at he
    have old : ∀ e, e ∈ es ++ ys ++ bs → EnAt (w.setCell ⟨g, p, none⟩ (.int .u8 u)) e := fun e hm => by
      have hm2 : e ∈ es ++ (ys ++ E :: bs) := by simp only [List.mem_append, List.mem_cons] at hm ⊢; rcases hm with (h | h) | h <;> simp [h]
      have he := h.en e hm2
      exact ⟨own_setCell he.1 (p := ⟨g, p, none⟩) (fun e2 => hmem e hm2 e2.symm hm) _, he.2⟩
    rcases he with he | he | he | he
    · exact old e (by simp [he])
    · exact old e (by simp [he])
    · subst he
      have h1 : w.ownsRow 0 5 1 (.slice (some ⟨g, 0, none⟩) E.xs.length cap) E.xs.length (nums .u8 E.xs) := by
        have h2 := hE.1
        rw [hv] at h2
        rw [hE.2.1]
        have h3 : w.ownsRow 0 5 1 (.slice (some ⟨g, 0, none⟩) 256 cap) E.xs.length (nums .u8 E.xs) := h2
        rw [hE.2.1] at h3
        exact h3
      have h2 := own_put h1 (p : Int) u
      rw [Int.toNat_natCast] at h2
      refine ⟨?_, ?_, fun z hz => ?_⟩
      · show ORow .u8 5 _ 0 E.v (E.xs.set p u)
        rw [hv]
        rw [hE.2.1] at h2
        exact h2
      · show (E.xs.set p u).length = 256
        rw [List.length_set]; exact hE.2.1
      · rcases List.mem_or_eq_of_mem_set hz with h4 | h4
        · exact hE.2.2 z h4
        · rw [h4]; exact hu
    · exact old e (by simp [he])
  · rw [h.foot i]
    have : (∃ e ∈ es ++ (ys ++ E :: bs), e.v.ownBlock = some i) ↔ ∃ e ∈ es ++ (ys ++ ⟨E.at_, E.v, E.xs.set p u⟩ :: bs), e.v.ownBlock = some i := by
      simp only [List.mem_append, List.mem_cons]
      constructor
      · rintro ⟨e, he, h2⟩
        rcases he with he | he | rfl | he
        · exact ⟨e, .inl he, h2⟩
        · exact ⟨e, .inr (.inl he), h2⟩
        · exact ⟨_, .inr (.inr (.inl rfl)), h2⟩
        · exact ⟨e, .inr (.inr (.inr he)), h2⟩
      · rintro ⟨e, he, h2⟩
        rcases he with he | he | rfl | he
        · exact ⟨e, .inl he, h2⟩
        · exact ⟨e, .inr (.inl he), h2⟩
        · exact ⟨E, .inr (.inr (.inl rfl)), h2⟩
        · exact ⟨e, .inr (.inr (.inr he)), h2⟩
    rw [this]
set_option maxRecDepth 100000 in
set_option maxHeartbeats 1000000 in
theorem rturn_bad {x : Nat} {vs vp : Value} {es ep : List En} {R : RS} {gs : Nat → Prop} {w : World} (h : RdV w x vs vp es ep R gs) (i pl y : Int) (hv : hasV R.size i ≠ 0 ∨ pl < 0 ∨ 256 ≤ pl) :
    Calls Try.prog 34 #[.pointer (some ⟨x, 0, none⟩), .int .i64 i, .int .i64 pl, .int .u8 y] w fun e w' => e = .returned (.int .i64 1) ∧ w = w' := by
  have c0 : w.cell? ⟨x, 0, none⟩ = some (.int .i64 R.size) := (blk_cell h.blk 0).trans rfl
  clear h
  by_cases h0 : i < 0
  · go_enter Try.func34, Try.ntmps34
    go_wp2
    go_ret
    exact ⟨rfl, rfl⟩
  · by_cases h1 : R.size ≤ i
    · go_enter Try.func34, Try.ntmps34
      go_wp2
      go_ret
      exact ⟨rfl, rfl⟩
    · have h2 : pl < 0 ∨ 256 ≤ pl := hv.resolve_left (by unfold hasV; rw [if_pos ⟨by omega, by omega⟩]; decide)
      clear hv
      by_cases h3 : pl < 0
      · clear h2
        go_enter Try.func34, Try.ntmps34
        go_wp2
        go_ret
        exact ⟨rfl, rfl⟩
      · have h4 : 256 ≤ pl := by omega
        clear h2
        go_enter Try.func34, Try.ntmps34
        go_wp2
        go_ret
        exact ⟨rfl, rfl⟩
set_option maxRecDepth 100000 in
set_option maxHeartbeats 4000000 in
theorem rturn_ok {x : Nat} {vs vp : Value} {es ep : List En} {R : RS} {gs : Nat → Prop} {w : World} (h : RdV w x vs vp es ep R gs) (hnd : ((es ++ ep).map own).Nodup) (i : Int) (p : Nat) (y : Int) (hv : hasV R.size i = 0) (hp : p < 256) (hy : 0 ≤ y ∧ y ≤ 255) (hpl : R.sure.length ≤ 1000000000) :
    Calls Try.prog 34 #[.pointer (some ⟨x, 0, none⟩), .int .i64 i, .int .i64 (p : Int), .int .u8 y] w fun e w' => e = .returned (.int .i64 0) ∧ REff w x gs { R with sure := R.sure ++ [(i, xorB (nowP R.sure i z256) p y)], pend := R.pend.map (turnP i p y) } w' := by
  have c0 : w.cell? ⟨x, 0, none⟩ = some (.int .i64 R.size) := (blk_cell h.blk 0).trans rfl
  have c1 : w.cell? ⟨x, 1, none⟩ = some vs := (blk_cell h.blk 1).trans rfl
  have H := Lib.hid h
  have HND := Lib.hid hnd
  have HLB : Hid ((es.length + 1) * 32 ≤ 140737488355328) := Lib.hid (by
    have e := congrArg List.length h.sure
    simp only [prs, List.length_map] at e
    omega)
  have km := make256
  have HM : Hid (ORow .u8 5 ((w.alloc (.cells (madeCells #[.int .u8 0] 256) 5)).drew) 0 (.slice (some ⟨w.heap.size, 0, none⟩) 256 256) z256) := Lib.hid (ORow.drew (made256 w))
  have HB1 : Hid (Below w.heap.size w ((w.alloc (.cells (madeCells #[.int .u8 0] 256) 5)).drew)) := Lib.hid (b_drew ((Below.refl _ _).alloc (Nat.le_refl _) _))
  have H1 := Lib.hid (h.below HB1.out)
  have HL1 := Lib.hid (fun vb => last_any es vs i vb _ H1.out.se)
  have hr1 := H1.out.last_sure i HM.out z256_blk
  have HC := Lib.hid (copy_row hr1.1 hr1.2)
  have HXX := Lib.hid hr1.2
  have m1 : ((w.alloc (.cells (madeCells #[.int .u8 0] 256) 5)).drew).cell? ⟨x, 1, none⟩ = some vs := (blk_cell H1.out.blk 1).trans rfl
  obtain ⟨ba, hba⟩ : ∃ b, nowP R.sure i z256 = b := ⟨_, rfl⟩
  rw [hba] at HC HXX ⊢
  have hin : 0 ≤ i ∧ i < R.size := by
    unfold hasV at hv
    split at hv
    · assumption
    · cases hv
  obtain ⟨h1, h2⟩ := hin
  clear h hr1 HM hv hnd hpl hba
  go_enter Try.func34, Try.ntmps34
  go_wp2
  -- W3
  refine start_ (n := 9) (S := fun w' => w'.cell? ⟨x, 1, none⟩ = some vs) (ds := []) #[false, false, false, false, false, false, false, false, false] (by kernel_rfl) rfl rfl (c1) (fun hHeld => ?_)
  refine pure_ (i := 0) (N := some 29) (v := ?_) (a' := ?_) #[true, false, false, false, false, false, false, false, false] rfl rfl (by kernel_rfl) (fun _ _ _ h => h) (Or.inl ⟨by rfl, ?_⟩) ?_ ?_
  rotate_left
  · intro w'
    go_simp
    with_reducible rfl
  rotate_left
  · simp only [Act.put, List.setIfInBounds_toArray, List.set_cons_zero, List.set_cons_succ, i64_w, i32_w]
    rfl
  refine pure_ (i := 1) (N := some 30) (v := ?_) (a' := ?_) #[true, true, false, false, false, false, false, false, false] rfl rfl (by kernel_rfl) (fun _ _ _ h => h) (Or.inl ⟨by rfl, ?_⟩) ?_ ?_
  rotate_left
  · intro w'
    go_simp
    with_reducible rfl
  rotate_left
  · simp only [Act.put, List.setIfInBounds_toArray, List.set_cons_zero, List.set_cons_succ, i64_w, i32_w]
    rfl
  refine pure_ (i := 2) (N := some 31) (v := ?_) (a' := ?_) #[true, true, true, false, false, false, false, false, false] rfl rfl (by kernel_rfl) (fun _ _ _ h => h) (Or.inl ⟨by rfl, ?_⟩) ?_ ?_
  rotate_left
  · intro w'
    go_simp
    with_reducible rfl
  rotate_left
  · simp only [Act.put, List.setIfInBounds_toArray, List.set_cons_zero, List.set_cons_succ, i64_w, i32_w]
    rfl
  refine pure_ (i := 4) (N := some 33) (v := ?_) (a' := ?_) #[true, true, true, false, true, false, false, false, false] rfl rfl (by kernel_rfl) (fun _ _ _ h => h) (Or.inl ⟨by rfl, ?_⟩) ?_ ?_
  rotate_left
  · intro w'
    go_simp
    with_reducible rfl
  rotate_left
  · simp only [Act.put, List.setIfInBounds_toArray, List.set_cons_zero, List.set_cons_succ, i64_w, i32_w]
    rfl
  refine take_ (i := 3) (N := some 32) (v := ?_) (a' := ?_) #[true, true, true, true, true, false, false, false, false] rfl rfl (by kernel_rfl) (fun _ _ _ h => h) (Or.inl ⟨by rfl, ?_⟩) hHeld ?_ ?_
  rotate_left
  · intro w' s0
    go_simp
    with_reducible rfl
  rotate_left
  · simp only [Act.put, List.setIfInBounds_toArray, List.set_cons_zero, List.set_cons_succ, i64_w, i32_w]
    rfl
  refine one_ (i := 5) (N := some 34) #[true, true, true, true, true, true, false, false, false] rfl rfl (by kernel_rfl) (by decide) (fun K hK => ?_)
  refine value_ (w1 := ?_) (v := ?_) (by rfl) rfl ?_ ?_
  rotate_left 2
  · go_simp
    constructor
    · rfl
    · rfl
  refine hK.out _ _ (m1) (fun hHeld => ?_)
  clear hK K
  refine norm_ (a' := ?_) ?_ ?_
  rotate_left
  · show Act.put _ (some 34) _ = _
    simp only [Act.put, List.setIfInBounds_toArray, List.set_cons_zero, List.set_cons_succ, i64_w, i32_w]
    rfl
  refine one_ (i := 6) (N := some 35) #[true, true, true, true, true, true, true, false, false] rfl rfl (by kernel_rfl) (by decide) (fun K hK => ?_)
  refine goes_ Try.func38 (by kernel_rfl) rfl #[vs, .int .i64 i, .slice (some ⟨w.heap.size, 0, none⟩) 256 256] (by rfl) rfl rfl (by simp only [List.map_toArray, List.map_cons, List.map_nil] <;> rfl) ?_
  with_reducible refine (HL1.out _).mono ?_
  rintro e w2 ⟨rfl, rfl⟩
  refine ⟨_, rfl, ?_⟩
  refine hK.out _ _ (m1) (fun hHeld => ?_)
  clear hK K
  refine norm_ (a' := ?_) ?_ ?_
  rotate_left
  · show Act.put _ (some 35) _ = _
    simp only [Act.put, List.setIfInBounds_toArray, List.set_cons_zero, List.set_cons_succ, i64_w, i32_w]
    rfl
  refine one_ (i := 7) (N := some 36) #[true, true, true, true, true, true, true, true, false] rfl rfl (by kernel_rfl) (by decide) (fun K hK => ?_)
  refine goes_ Try.func37 (by kernel_rfl) rfl #[lastE es i (.slice (some ⟨w.heap.size, 0, none⟩) 256 256)] (by rfl) rfl rfl (by simp only [List.map_toArray, List.map_cons, List.map_nil] <;> rfl) ?_
  with_reducible refine (HC.out).mono ?_
  rintro e w2 ⟨vc, rfl, hO, hB⟩
  refine ⟨_, rfl, ?_⟩
  have HX2 := Lib.hid (below_then HB1.out HB1.out.size hB)
  have HD2 := Lib.hid (H.out.below HX2.out)
  obtain ⟨gc, nc, rfl, hnc⟩ := own_form hO (by rw [HXX.out.1]; decide)
  have HGC : Hid (w.heap.size ≤ gc) := Lib.hid (Nat.le_trans HB1.out.size (own_base hO gc rfl))
  have HO2 := Lib.hid hO
  have c21 : w2.cell? ⟨x, 1, none⟩ = some vs := (blk_cell HD2.out.blk 1).trans rfl
  clear hO hB hnc
  refine hK.out _ _ (c21) (fun hHeld => ?_)
  clear hK K
  refine norm_ (a' := ?_) ?_ ?_
  rotate_left
  · show Act.put _ (some 36) _ = _
    simp only [Act.put, List.setIfInBounds_toArray, List.set_cons_zero, List.set_cons_succ, i64_w, i32_w]
    rfl
  refine pure_ (i := 8) (N := some 9) (v := ?_) (a' := ?_) #[true, true, true, true, true, true, true, true, true] rfl rfl (by kernel_rfl) (fun _ _ _ h => h) (Or.inl ⟨by rfl, ?_⟩) ?_ ?_
  rotate_left
  · intro w'
    go_simp
    with_reducible rfl
  rotate_left
  · simp only [Act.put, List.setIfInBounds_toArray, List.set_cons_zero, List.set_cons_succ, i64_w, i32_w]
    rfl
  refine done_ (by kernel_rfl) ?_
  -- ENDW3
  have hrb := row_byte HO2.out p (by rw [HXX.out.1]; exact hp)
  have HPUT := Lib.hid (row_put HO2.out rfl p (xr (rd ba (p : Int)) y))
  have HLN : Hid (ba.length = 256) := Lib.hid HXX.out.1
  rw [HLN.out] at HO2 HPUT
  obtain ⟨hq1, hq2⟩ := hrb
  have HB256 := Lib.hid (xorB_blk HXX.out p y)
  obtain ⟨ub, hub⟩ : ∃ ub, ub = rd ba (p : Int) := ⟨_, rfl⟩
  have HUB : Hid (xorB ba p y = ba.set p (xr ub y)) := Lib.hid (by rw [hub]; rfl)
  rw [← hub] at hq1 HPUT
  clear hub
  have HD3 := Lib.hid (HD2.out.keep (w' := w2.setCell ⟨gc, p, none⟩ (.int .u8 (xr ub y))) (fun j hj => Below.heap_setCell _ _ _ _ (show j ≠ gc by have := H.out.lt j hj; have := HGC.out; omega)))
  have HE3 : Hid (EnAt (w2.setCell ⟨gc, p, none⟩ (.int .u8 (xr ub y))) ⟨i, .slice (some ⟨gc, 0, none⟩) 256 nc, xorB ba p y⟩) := Lib.hid ⟨by
    show ORow _ _ _ _ _ (xorB ba p y)
    rw [HUB.out]
    exact HPUT.out.lower (Nat.zero_le _), HB256.out⟩
  have n1 : (w2.setCell ⟨gc, p, none⟩ (.int .u8 (xr ub y))).cell? ⟨x, 1, none⟩ = some vs := (blk_cell HD3.out.blk 1).trans rfl
  rw [HLN.out]
  unfold xr at n1
  have HN4 := Lib.hid (nodup_mid (RdV.nodup_new H.out HND.out (E := ⟨i, .slice (some ⟨gc, 0, none⟩) 256 nc, xorB ba p y⟩) (g := gc) rfl HGC.out))
  have HSE : Hid ((w2.setCell ⟨gc, p, none⟩ (.int .u8 (bits BinOp.xor IntKind.u8 ub y))).heap.size = w2.heap.size) := Lib.hid (by simp)
  obtain ⟨R', hR'⟩ : ∃ R', R' = { R with sure := R.sure ++ [(i, xorB ba p y)] } := ⟨_, rfl⟩
  go_wp2_with (first
    | (at_builtin; refine print_append_cells (w0 := w2.setCell ⟨gc, p, none⟩ (.int .u8 (xr ub y))) 0 rfl (.tmp 50) (.tmp 54) 47 71 (.agg #[.int .i64 0, .slice none 0 0]) 2 32 rfl Try.underlying47 infoWr28 rfl (by decide) (by decide) vs es.length (es.flatMap ecells) (ecells ⟨i, .slice (some ⟨gc, 0, none⟩) 256 nc, xorB ba p y⟩) rfl (by rw [HSE.out]; rfl) rfl HE3.out.one HD3.out.se (Below.refl _ _) (Nat.zero_le _) HLB.out ?_; intro v1 w3 hO3 _ hG3 hA3; obtain ⟨A1, n9, rfl⟩ := own_slice hO3; have hb3 := (hG3.block x (blk_lt HD3.out.blk) HD3.out.xne.1).trans HD3.out.blk; have e1 : w3.cell? ⟨x, 1, none⟩ = some vs := (blk_cell hb3 1).trans rfl; have f1 := blk_frozen hb3 1; have HD4 := Lib.hid (HD3.out.sured HE3.out hO3 hG3 hA3); have HF4 : Hid (Frame gs w (w3.setCell ⟨x, 1, none⟩ (.slice A1 (es.length + 1) n9))) := Lib.hid (Frame.setCell (Frame.grown (Frame.setCell (Below.frame_ HX2.out) (.inr HGC.out) _) hG3 (fun k hk => .inl ((H.out.foot k).2 (.inr (.inl hk))))) (.inl H.out.self) _); have HN5 := Lib.hid (RdV.sured_new (hs := gs) (B := w.heap.size) HD3.out hA3 (fun _ h => .inl h) (by have := HX2.out.size; simp; omega) (E := ⟨i, .slice (some ⟨gc, 0, none⟩) 256 nc, xorB ba p y⟩) (fun j hj => .inr (by have := HGC.out; have hj2 : some gc = some j := hj; injection hj2 with hj2; omega))); clear hO3 hG3 hA3 hb3))
  obtain ⟨Ap, cp, rfl⟩ := own_slice HD4.out.pe
  have hpm := own_max HD4.out.pe
  generalize hE : (⟨i, .slice (some ⟨gc, 0, none⟩) 256 nc, xorB ba p y⟩ : En) = E at *
  have HEE : Hid ((E.at_, E.xs) = (i, xorB ba p y)) := Lib.hid (by rw [← hE])
  clear hE
  obtain ⟨gs4, hgs4⟩ : ∃ f : Nat → Prop, f = (fun j => j = x ∨ (Value.slice A1 (es.length + 1) n9).ownBlock = some j ∨ (Value.slice Ap ep.length cp).ownBlock = some j ∨ ∃ e ∈ (es ++ [E]) ++ ep, e.v.ownBlock = some j) := ⟨_, rfl⟩
  rw [← hgs4] at HD4
  have HN6 : Hid (∀ j, gs4 j → gs j ∨ w.heap.size ≤ j) := Lib.hid (by rw [hgs4]; exact HN5.out)
  clear hgs4
  generalize (w3.setCell ⟨x, 1, none⟩ (.slice A1 (es.length + 1) n9)) = w4 at *
  have HPE : Hid (R.pend = prs ep) := Lib.hid H.out.pend
  have HPL : Hid (ep.length ≤ 9223372036854775807) := Lib.hid hpm
  go_loopw [10] (fun s10 wr => ∃ k : Nat, k ≤ ep.length ∧ s10 = .int .i64 k ∧ Hid (RdV wr x (.slice A1 (es.length + 1) n9) (.slice Ap ep.length cp) (es ++ [E]) (mapK (turnE i p y) k ep) { R with sure := R.sure ++ [(i, xorB ba p y)], pend := prs (mapK (turnE i p y) k ep) } gs4) ∧ Hid (Frame gs4 w4 wr)) (fun s10 _ => ep.length - (intOf s10).toNat)
  case atStart => exact ⟨0, Nat.zero_le _, rfl, Lib.hid (by rw [mapK_zero, ← HPE.out]; exact HD4.out), Lib.hid (Frame.refl _ _)⟩
  case round =>
    obtain ⟨k, hk, rfl, HR, HFR⟩ := hrel
    have p2 : wr.cell? ⟨x, 2, none⟩ = some (.slice Ap ep.length cp) := (blk_cell HR.out.blk 2).trans rfl
    by_cases hlt : k < ep.length
    · have hks : k < (mapK (turnE i p y) k ep).length := by rw [mapK_len]; exact hlt
      have hge := mapK_get (turnE i p y) k ep hlt
      obtain ⟨gp, cap, hvf, _⟩ := own_form HR.out.pe (by rw [mapK_len]; omega)
      injection hvf with q1 q2 q3
      subst q1
      obtain ⟨r0, r1⟩ := EsAt.at_ HR.out.pe hks
      rw [hge] at r0 r1
      have hat := mapK_at (turnE i p y) k ep hlt
      have hsu := mapK_succ (turnE i p y) k ep hlt
      have HMO : Hid ((((es ++ [E]) ++ mapK (turnE i p y) k ep).map own).Nodup) := Lib.hid (by rw [List.map_append, mapK_own, ← List.map_append]; exact HN4.out)
      generalize hq : ep[k] = q at *
      have HQ : Hid (EnAt wr q) := Lib.hid (HR.out.en q (by rw [hat]; simp))
      by_cases hqi : q.at_ = i
      · obtain ⟨g, cg, hgv, hcg, cur, hcur⟩ := HQ.out.form
        have hO := HQ.out.1
        rw [hgv] at hO r1
        obtain ⟨y1, y2⟩ := row_byte hO p (by rw [HQ.out.2.1]; exact hp)
        have HBY : Hid (RdV (wr.setCell ⟨g, p, none⟩ (.int .u8 (bits BinOp.xor IntKind.u8 (rd q.xs (p : Int)) y))) x (.slice A1 (es.length + 1) n9) (.slice (some ⟨gp, 0, none⟩) ep.length cp) (es ++ [E]) (mapK (turnE i p y) (k + 1) ep) { R with sure := R.sure ++ [(i, xorB ba p y)], pend := prs (mapK (turnE i p y) (k + 1) ep) } gs4) := Lib.hid (by
          have h1 := HR.out
          have h2 := HMO.out
          rw [hat] at h1 h2
          have h3 := h1.byte h2 hgv p (xr (rd q.xs (p : Int)) y) (xr_range _ _)
          have h4 : turnE i p y q = ⟨q.at_, q.v, q.xs.set p (xr (rd q.xs (p : Int)) y)⟩ := by unfold turnE; rw [if_pos hqi]; rfl
          rw [hsu, h4]
          exact h3)
        have HGG : Hid (gs4 g) := Lib.hid ((HR.out.foot g).2 (.inr (.inr (.inr ⟨q, by rw [hat]; simp, by rw [hgv]; rfl⟩))))
        have hqe : ((q.at_ : Int) == i) = true := by simp [hqi]
        clear hat hsu hge hcur hgv hO hks hcg
        generalize rd q.xs (p : Int) = ub2 at *
        generalize q.at_ = qa at *
        subst hqi
        go_wp2
        -- W10
        refine start_ (n := 24) (S := fun w' => w'.cell? ⟨x, 2, none⟩ = some (.slice (some ⟨gp, 0, none⟩) ep.length cp) ∧ w'.cell? ⟨gp, k * 2 + 1, none⟩ = some (.slice (some ⟨g, 0, none⟩) 256 cg) ∧ w'.cell? ⟨g, p, none⟩ = some (.int .u8 ub2)) (ds := [23]) #[false, false, false, false, false, false, false, false, false, false, false, false, false, false, false, false, false, false, false, false, false, false, false, false] (by kernel_rfl) rfl rfl ⟨p2, r1, y1⟩ (fun hHeld => ?_)
        refine pure_ (i := 0) (N := some 77) (v := ?_) (a' := ?_) #[true, false, false, false, false, false, false, false, false, false, false, false, false, false, false, false, false, false, false, false, false, false, false, false] rfl rfl (by kernel_rfl) (fun _ _ _ h => h) (Or.inl ⟨by rfl, ?_⟩) ?_ ?_
        rotate_left
        · intro w'
          go_simp
          with_reducible rfl
        rotate_left
        · simp only [Act.put, List.setIfInBounds_toArray, List.set_cons_zero, List.set_cons_succ, i64_w, i32_w]
          rfl
        refine pure_ (i := 1) (N := some 78) (v := ?_) (a' := ?_) #[true, true, false, false, false, false, false, false, false, false, false, false, false, false, false, false, false, false, false, false, false, false, false, false] rfl rfl (by kernel_rfl) (fun _ _ _ h => h) (Or.inl ⟨by rfl, ?_⟩) ?_ ?_
        rotate_left
        · intro w'
          go_simp
          with_reducible rfl
        rotate_left
        · simp only [Act.put, List.setIfInBounds_toArray, List.set_cons_zero, List.set_cons_succ, i64_w, i32_w]
          rfl
        refine pure_ (i := 2) (N := some 79) (v := ?_) (a' := ?_) #[true, true, true, false, false, false, false, false, false, false, false, false, false, false, false, false, false, false, false, false, false, false, false, false] rfl rfl (by kernel_rfl) (fun _ _ _ h => h) (Or.inl ⟨by rfl, ?_⟩) ?_ ?_
        rotate_left
        · intro w'
          go_simp
          with_reducible rfl
        rotate_left
        · simp only [Act.put, List.setIfInBounds_toArray, List.set_cons_zero, List.set_cons_succ, i64_w, i32_w]
          rfl
        refine pure_ (i := 4) (N := some 81) (v := ?_) (a' := ?_) #[true, true, true, false, true, false, false, false, false, false, false, false, false, false, false, false, false, false, false, false, false, false, false, false] rfl rfl (by kernel_rfl) (fun _ _ _ h => h) (Or.inl ⟨by rfl, ?_⟩) ?_ ?_
        rotate_left
        · intro w'
          go_simp
          with_reducible rfl
        rotate_left
        · simp only [Act.put, List.setIfInBounds_toArray, List.set_cons_zero, List.set_cons_succ, i64_w, i32_w]
          rfl
        refine pure_ (i := 8) (N := some 85) (v := ?_) (a' := ?_) #[true, true, true, false, true, false, false, false, true, false, false, false, false, false, false, false, false, false, false, false, false, false, false, false] rfl rfl (by kernel_rfl) (fun _ _ _ h => h) (Or.inl ⟨by rfl, ?_⟩) ?_ ?_
        rotate_left
        · intro w'
          go_simp
          with_reducible rfl
        rotate_left
        · simp only [Act.put, List.setIfInBounds_toArray, List.set_cons_zero, List.set_cons_succ, i64_w, i32_w]
          rfl
        refine pure_ (i := 9) (N := some 86) (v := ?_) (a' := ?_) #[true, true, true, false, true, false, false, false, true, true, false, false, false, false, false, false, false, false, false, false, false, false, false, false] rfl rfl (by kernel_rfl) (fun _ _ _ h => h) (Or.inl ⟨by rfl, ?_⟩) ?_ ?_
        rotate_left
        · intro w'
          go_simp
          with_reducible rfl
        rotate_left
        · simp only [Act.put, List.setIfInBounds_toArray, List.set_cons_zero, List.set_cons_succ, i64_w, i32_w]
          rfl
        refine pure_ (i := 10) (N := some 87) (v := ?_) (a' := ?_) #[true, true, true, false, true, false, false, false, true, true, true, false, false, false, false, false, false, false, false, false, false, false, false, false] rfl rfl (by kernel_rfl) (fun _ _ _ h => h) (Or.inl ⟨by rfl, ?_⟩) ?_ ?_
        rotate_left
        · intro w'
          go_simp
          with_reducible rfl
        rotate_left
        · simp only [Act.put, List.setIfInBounds_toArray, List.set_cons_zero, List.set_cons_succ, i64_w, i32_w]
          rfl
        refine pure_ (i := 11) (N := some 88) (v := ?_) (a' := ?_) #[true, true, true, false, true, false, false, false, true, true, true, true, false, false, false, false, false, false, false, false, false, false, false, false] rfl rfl (by kernel_rfl) (fun _ _ _ h => h) (Or.inl ⟨by rfl, ?_⟩) ?_ ?_
        rotate_left
        · intro w'
          go_simp
          with_reducible rfl
        rotate_left
        · simp only [Act.put, List.setIfInBounds_toArray, List.set_cons_zero, List.set_cons_succ, i64_w, i32_w]
          rfl
        refine pure_ (i := 13) (N := some 90) (v := ?_) (a' := ?_) #[true, true, true, false, true, false, false, false, true, true, true, true, false, true, false, false, false, false, false, false, false, false, false, false] rfl rfl (by kernel_rfl) (fun _ _ _ h => h) (Or.inl ⟨by rfl, ?_⟩) ?_ ?_
        rotate_left
        · intro w'
          go_simp
          with_reducible rfl
        rotate_left
        · simp only [Act.put, List.setIfInBounds_toArray, List.set_cons_zero, List.set_cons_succ, i64_w, i32_w]
          rfl
        refine pure_ (i := 17) (N := some 94) (v := ?_) (a' := ?_) #[true, true, true, false, true, false, false, false, true, true, true, true, false, true, false, false, false, true, false, false, false, false, false, false] rfl rfl (by kernel_rfl) (fun _ _ _ h => h) (Or.inl ⟨by rfl, ?_⟩) ?_ ?_
        rotate_left
        · intro w'
          go_simp
          with_reducible rfl
        rotate_left
        · simp only [Act.put, List.setIfInBounds_toArray, List.set_cons_zero, List.set_cons_succ, i64_w, i32_w]
          rfl
        refine pure_ (i := 20) (N := some 97) (v := ?_) (a' := ?_) #[true, true, true, false, true, false, false, false, true, true, true, true, false, true, false, false, false, true, false, false, true, false, false, false] rfl rfl (by kernel_rfl) (fun _ _ _ h => h) (Or.inl ⟨by rfl, ?_⟩) ?_ ?_
        rotate_left
        · intro w'
          go_simp
          with_reducible rfl
        rotate_left
        · simp only [Act.put, List.setIfInBounds_toArray, List.set_cons_zero, List.set_cons_succ, i64_w, i32_w]
          rfl
        refine take_ (i := 3) (N := some 80) (v := ?_) (a' := ?_) #[true, true, true, true, true, false, false, false, true, true, true, true, false, true, false, false, false, true, false, false, true, false, false, false] rfl rfl (by kernel_rfl) (fun _ _ _ h => h) (Or.inl ⟨by rfl, ?_⟩) hHeld ?_ ?_
        rotate_left
        · rintro w' ⟨s0, s1, s2⟩
          go_simp
          with_reducible rfl
        rotate_left
        · simp only [Act.put, List.setIfInBounds_toArray, List.set_cons_zero, List.set_cons_succ, i64_w, i32_w]
          rfl
        refine pure_ (i := 5) (N := some 82) (v := ?_) (a' := ?_) #[true, true, true, true, true, true, false, false, true, true, true, true, false, true, false, false, false, true, false, false, true, false, false, false] rfl rfl (by kernel_rfl) (fun _ _ _ h => h) (Or.inl ⟨by rfl, ?_⟩) ?_ ?_
        rotate_left
        · intro w'
          go_simp
          with_reducible rfl
        rotate_left
        · simp only [Act.put, List.setIfInBounds_toArray, List.set_cons_zero, List.set_cons_succ, i64_w, i32_w]
          rfl
        refine pure_ (i := 6) (N := some 83) (v := ?_) (a' := ?_) #[true, true, true, true, true, true, true, false, true, true, true, true, false, true, false, false, false, true, false, false, true, false, false, false] rfl rfl (by kernel_rfl) (fun _ _ _ h => h) (Or.inl ⟨by rfl, ?_⟩) ?_ ?_
        rotate_left
        · intro w'
          go_simp
          with_reducible rfl
        rotate_left
        · simp only [Act.put, List.setIfInBounds_toArray, List.set_cons_zero, List.set_cons_succ, i64_w, i32_w]
          rfl
        refine take_ (i := 7) (N := some 84) (v := ?_) (a' := ?_) #[true, true, true, true, true, true, true, true, true, true, true, true, false, true, false, false, false, true, false, false, true, false, false, false] rfl rfl (by kernel_rfl) (fun _ _ _ h => h) (Or.inl ⟨by rfl, ?_⟩) hHeld ?_ ?_
        rotate_left
        · rintro w' ⟨s0, s1, s2⟩
          go_simp
          with_reducible rfl
        rotate_left
        · simp only [Act.put, List.setIfInBounds_toArray, List.set_cons_zero, List.set_cons_succ, i64_w, i32_w]
          rfl
        refine take_ (i := 12) (N := some 89) (v := ?_) (a' := ?_) #[true, true, true, true, true, true, true, true, true, true, true, true, true, true, false, false, false, true, false, false, true, false, false, false] rfl rfl (by kernel_rfl) (fun _ _ _ h => h) (Or.inl ⟨by rfl, ?_⟩) hHeld ?_ ?_
        rotate_left
        · rintro w' ⟨s0, s1, s2⟩
          go_simp
          with_reducible rfl
        rotate_left
        · simp only [Act.put, List.setIfInBounds_toArray, List.set_cons_zero, List.set_cons_succ, i64_w, i32_w]
          rfl
        refine pure_ (i := 14) (N := some 91) (v := ?_) (a' := ?_) #[true, true, true, true, true, true, true, true, true, true, true, true, true, true, true, false, false, true, false, false, true, false, false, false] rfl rfl (by kernel_rfl) (fun _ _ _ h => h) (Or.inl ⟨by rfl, ?_⟩) ?_ ?_
        rotate_left
        · intro w'
          go_simp
          with_reducible rfl
        rotate_left
        · simp only [Act.put, List.setIfInBounds_toArray, List.set_cons_zero, List.set_cons_succ, i64_w, i32_w]
          rfl
        refine pure_ (i := 15) (N := some 92) (v := ?_) (a' := ?_) #[true, true, true, true, true, true, true, true, true, true, true, true, true, true, true, true, false, true, false, false, true, false, false, false] rfl rfl (by kernel_rfl) (fun _ _ _ h => h) (Or.inl ⟨by rfl, ?_⟩) ?_ ?_
        rotate_left
        · intro w'
          go_simp
          with_reducible rfl
        rotate_left
        · simp only [Act.put, List.setIfInBounds_toArray, List.set_cons_zero, List.set_cons_succ, i64_w, i32_w]
          rfl
        refine take_ (i := 16) (N := some 93) (v := ?_) (a' := ?_) #[true, true, true, true, true, true, true, true, true, true, true, true, true, true, true, true, true, true, false, false, true, false, false, false] rfl rfl (by kernel_rfl) (fun _ _ _ h => h) (Or.inl ⟨by rfl, ?_⟩) hHeld ?_ ?_
        rotate_left
        · rintro w' ⟨s0, s1, s2⟩
          go_simp
          with_reducible rfl
        rotate_left
        · simp only [Act.put, List.setIfInBounds_toArray, List.set_cons_zero, List.set_cons_succ, i64_w, i32_w]
          rfl
        refine pure_ (i := 18) (N := some 95) (v := ?_) (a' := ?_) #[true, true, true, true, true, true, true, true, true, true, true, true, true, true, true, true, true, true, true, false, true, false, false, false] rfl rfl (by kernel_rfl) (fun _ _ _ h => h) (Or.inl ⟨by rfl, ?_⟩) ?_ ?_
        rotate_left
        · intro w'
          go_simp
          with_reducible rfl
        rotate_left
        · simp only [Act.put, List.setIfInBounds_toArray, List.set_cons_zero, List.set_cons_succ, i64_w, i32_w]
          rfl
        refine take_ (i := 19) (N := some 96) (v := ?_) (a' := ?_) #[true, true, true, true, true, true, true, true, true, true, true, true, true, true, true, true, true, true, true, true, true, false, false, false] rfl rfl (by kernel_rfl) (fun _ _ _ h => h) (Or.inl ⟨by rfl, ?_⟩) hHeld ?_ ?_
        rotate_left
        · rintro w' ⟨s0, s1, s2⟩
          go_simp
          with_reducible rfl
        rotate_left
        · simp only [Act.put, List.setIfInBounds_toArray, List.set_cons_zero, List.set_cons_succ, i64_w, i32_w]
          rfl
        refine pure_ (i := 21) (N := some 98) (v := ?_) (a' := ?_) #[true, true, true, true, true, true, true, true, true, true, true, true, true, true, true, true, true, true, true, true, true, true, false, false] rfl rfl (by kernel_rfl) (fun _ _ _ h => h) (Or.inl ⟨by rfl, ?_⟩) ?_ ?_
        rotate_left
        · intro w'
          go_simp
          with_reducible rfl
        rotate_left
        · simp only [Act.put, List.setIfInBounds_toArray, List.set_cons_zero, List.set_cons_succ, i64_w, i32_w]
          rfl
        refine pure_ (i := 22) (N := some 99) (v := ?_) (a' := ?_) #[true, true, true, true, true, true, true, true, true, true, true, true, true, true, true, true, true, true, true, true, true, true, true, false] rfl rfl (by kernel_rfl) (fun _ _ _ h => h) (Or.inl ⟨by rfl, ?_⟩) ?_ ?_
        rotate_left
        · intro w'
          go_simp
          with_reducible rfl
        rotate_left
        · simp only [Act.put, List.setIfInBounds_toArray, List.set_cons_zero, List.set_cons_succ, i64_w, i32_w]
          rfl
        refine last_ (i := 23) (N := none) #[true, true, true, true, true, true, true, true, true, true, true, true, true, true, true, true, true, true, true, true, true, true, true, true] rfl rfl (by kernel_rfl) (by decide) (fun K hK => ?_)
        refine skip_ (w1 := ?_) (by rfl) rfl ?_ ?_
        rotate_left
        · go_simp
          rfl
        refine hK.out _ _ ?_
        clear hK K
        refine done_ (by kernel_rfl) ?_
        -- ENDW10
        go_wp2
        go_roundw
        case rel =>
          first
            | exact ⟨k + 1, by omega, by go_num, Lib.hid (HBY.out.keep (fun _ _ => rfl)), Lib.hid (Frame.setCell HFR.out.drew (.inl HGG.out) _)⟩
            | ((repeat apply Exists.intro); exact ⟨⟨k + 1, by omega, by go_num, Lib.hid (HBY.out.keep (fun _ _ => rfl)), Lib.hid (Frame.setCell HFR.out.drew (.inl HGG.out) _)⟩, rfl⟩)
        case measure => simp [intOf]; omega
      · have HBY : Hid (RdV wr x (.slice A1 (es.length + 1) n9) (.slice (some ⟨gp, 0, none⟩) ep.length cp) (es ++ [E]) (mapK (turnE i p y) (k + 1) ep) { R with sure := R.sure ++ [(i, xorB ba p y)], pend := prs (mapK (turnE i p y) (k + 1) ep) } gs4) := Lib.hid (by
          have h4 : turnE i p y q = q := by unfold turnE; rw [if_neg hqi]
          rw [hsu, h4, ← hat]
          exact HR.out)
        clear hat hsu hge hks
        go_wp2
        go_roundw
        case rel => exact ⟨k + 1, by omega, by go_num, HBY, HFR⟩
        case measure => simp [intOf]; omega
    · obtain rfl : k = ep.length := by omega
      go_wp2
      go_ret
      refine ⟨rfl, gs4, ⟨_, _, _, _, by have h := HR.out; rw [mapK_full, prs_turn, ← HPE.out] at h; exact h, ?_⟩, Frame.trans HF4.out HFR.out HN6.out, HN6.out⟩
      have h := HN4.out
      rw [List.map_append] at h ⊢
      rwa [← mapK_full, mapK_own]
theorem rturn_any {x : Nat} {R : RS} {gs : Nat → Prop} {w : World} (h : RefAt w x R gs) (hpl : R.sure.length ≤ 1000000000) (i pl y : Int) (hy : 0 ≤ y ∧ y ≤ 255) :
    Calls Try.prog 34 #[.pointer (some ⟨x, 0, none⟩), .int .i64 i, .int .i64 pl, .int .u8 y] w fun e w' => e = .returned (.int .i64 (turnR R i pl y).1) ∧ REff w x gs (turnR R i pl y).2 w' := by
  obtain ⟨vs, vp, es, ep, h, hn⟩ := h
  unfold turnR
  by_cases hv : hasV R.size i ≠ 0 ∨ pl < 0 ∨ 256 ≤ pl
  · rw [if_pos hv]
    refine (rturn_bad h i pl y hv).mono ?_
    rintro e w' ⟨he, rfl⟩
    exact ⟨he, REff.of h hn (Frame.refl _ _)⟩
  · rw [if_neg hv]
    have hv1 : hasV R.size i = 0 := Decidable.of_not_not (fun h => hv (.inl h))
    obtain ⟨p, rfl⟩ : ∃ p : Nat, pl = (p : Int) := ⟨pl.toNat, by omega⟩
    rw [Int.toNat_natCast]
    exact rturn_ok h hn i p y hv1 (by omega) hy hpl
end Go.Proofs.Ytfjeincceglfoaa
