/- The disk: what it is in memory; its small methods. -/
import Derived.Test.YtlmdghafiadgjaaDk
namespace Go.Proofs.Ytlmdghafiadgjaa
set_option linter.unusedVariables false
set_option linter.unusedSimpArgs false
open Go.RowKit Go.Proofs.YtlmdghafiadgjaaW.PrintWords

structure DS where
  size : Int
  sure : Int → List Int
  pend : List (Int × List Int)
  planned : Bool
  after : Int
  err : Int
def z256 : List Int := List.replicate 256 0
theorem z256_len : z256.length = 256 := List.length_replicate
def blk (l : List Int) : Value := .agg (nums .u8 l).toArray
def wcells (p : Int × List Int) : List Value := .int .i64 p.1 :: nums .u8 p.2
def SureAt (w : World) (r : Nat) (S : Int → List Int) : Prop := ∃ F, MapI w r F ∧ ∀ k, (F k).getD (blk z256) = blk (S k)
def PendAt (w : World) (v : Value) (ps : List (Int × List Int)) : Prop := w.ownsRow 0 89 257 v ps.length (ps.flatMap wcells)
def Blk (l : List Int) : Prop := l.length = 256 ∧ Bytes l
structure DS.Ok (D : DS) : Prop where
  pos : 0 < D.size
  max : D.size ≤ 65536
  sure : ∀ k, Blk (D.sure k)
  pend : ∀ p ∈ D.pend, Blk p.2
/-- The disk D in block b, its map in block r, its list v; fs: the blocks that it has. -/
structure DkV (w : World) (b r : Nat) (v : Value) (D : DS) (fs : Nat → Prop) : Prop where
  blk : w.heap[b]? = some (.cells #[.int .i64 D.size, .map (some r), v, .bool D.planned, .int .i64 D.after, .int .i64 D.err] 38 (0, 0))
  sure : SureAt w r D.sure
  pend : PendAt w v D.pend
  foot : ∀ i, fs i ↔ i = b ∨ i = r ∨ v.ownBlock = some i
  ok : D.Ok
/-- The disk D in block b. -/
def DiskAt (w : World) (b : Nat) (D : DS) (fs : Nat → Prop) : Prop := ∃ r v, DkV w b r v D fs
theorem own_keep {w w' : World} {base : Nat} {e : TypeId} {size n : Nat} {v : Value} {xs : List Value} (h : w.ownsRow base e size v n xs) (hb : ∀ g, v.ownBlock = some g → w'.heap[g]? = w.heap[g]?) : w'.ownsRow base e size v n xs := by
  obtain ⟨h1, h2⟩ := h
  refine ⟨h1, ?_⟩
  rcases h2 with h2 | ⟨g, cap, cur, rfl, hg, hh, r⟩
  · exact .inl h2
  · exact .inr ⟨g, cap, cur, rfl, hg, (hb g rfl).trans hh, r⟩
theorem DiskAt.lt {w : World} {b : Nat} {D : DS} {fs : Nat → Prop} (h : DiskAt w b D fs) : ∀ i, fs i → i < w.heap.size := by
  obtain ⟨r, v, hb, ⟨F, hm, _⟩, hp, hf, _⟩ := h
  intro i hi
  rcases (hf i).1 hi with rfl | rfl | h
  · exact blk_lt hb
  · exact hm.lt
  · exact own_lt hp i h
theorem DiskAt.keep {w w' : World} {b : Nat} {D : DS} {fs : Nat → Prop} (h : DiskAt w b D fs) (hk : ∀ i, fs i → w'.heap[i]? = w.heap[i]?) : DiskAt w' b D fs := by
  obtain ⟨r, v, hb, ⟨F, hm, hF⟩, hp, hf, ho⟩ := h
  exact ⟨r, v, (hk b ((hf b).2 (.inl rfl))).trans hb, ⟨F, hm.keep (hk r ((hf r).2 (.inr (.inl rfl)))), hF⟩, own_keep hp (fun g hg => hk g ((hf g).2 (.inr (.inr hg)))), hf, ho⟩
theorem DiskAt.frame {w w' : World} {b : Nat} {D : DS} {fs gs : Nat → Prop} (h : DiskAt w b D fs) (hk : Frame gs w w') (hd : ∀ i, fs i → ¬ gs i) : DiskAt w' b D fs :=
  h.keep fun i hi => hk.block i (h.lt i hi) (hd i hi)
theorem DiskAt.below {w w' : World} {b : Nat} {D : DS} {fs : Nat → Prop} (h : DiskAt w b D fs) (hk : Below w.heap.size w w') : DiskAt w' b D fs :=
  h.keep fun i hi => hk.block i (h.lt i hi)
theorem DiskAt.ok {w : World} {b : Nat} {D : DS} {fs : Nat → Prop} (h : DiskAt w b D fs) : D.Ok := by
  obtain ⟨_, _, _, _, _, _, ho⟩ := h; exact ho
theorem DiskAt.self {w : World} {b : Nat} {D : DS} {fs : Nat → Prop} (h : DiskAt w b D fs) : fs b := by
  obtain ⟨_, _, _, _, _, hf, _⟩ := h; exact (hf b).2 (.inl rfl)
/-- What becomes of a disk. -/
def Eff (w : World) (b : Nat) (fs : Nat → Prop) (D' : DS) (w' : World) : Prop := ∃ fs', DiskAt w' b D' fs' ∧ Frame fs w w' ∧ ∀ i, fs' i → fs i ∨ w.heap.size ≤ i
theorem Eff.refl {w : World} {b : Nat} {D : DS} {fs : Nat → Prop} (h : DiskAt w b D fs) : Eff w b fs D w := ⟨fs, h, Frame.refl _ _, fun _ h => .inl h⟩

set_option maxRecDepth 100000 in
set_option maxHeartbeats 400000 in
theorem made_nil (w : World) : Calls Try.prog 51 #[.pointer none] w fun e w' => e = .returned (.bool false) ∧ w = w' := by
  go_enter Try.func51, Try.ntmps51
  go_wp2
  go_ret
  exact ⟨rfl, rfl⟩
set_option maxRecDepth 100000 in
set_option maxHeartbeats 400000 in
theorem made_at (b : Nat) (n : Int) (w : World) (h : w.cell? ⟨b, 0, none⟩ = some (.int .i64 n)) : Calls Try.prog 51 #[.pointer (some ⟨b, 0, none⟩)] w fun e w' => e = .returned (.bool (decide (0 < n))) ∧ w = w' := by
  go_enter Try.func51, Try.ntmps51
  go_wp2
  go_ret
  exact ⟨rfl, rfl⟩
set_option maxRecDepth 100000 in
set_option maxHeartbeats 400000 in
theorem made_yes (b : Nat) (n : Int) (w : World) (h : w.cell? ⟨b, 0, none⟩ = some (.int .i64 n)) (hn : 0 < n) : Calls Try.prog 51 #[.pointer (some ⟨b, 0, none⟩)] w fun e w' => e = .returned (.bool true) ∧ w = w' := by
  have h2 := made_at b n w h
  rwa [decide_eq_true hn] at h2
/-- Who is no disk: nil, or what no call made. -/
def NoDisk (w : World) (p : Value) : Prop := p = .pointer none ∨ ∃ b, p = .pointer (some ⟨b, 0, none⟩) ∧ w.cell? ⟨b, 0, none⟩ = some (.int .i64 0)
theorem made_no (p : Value) (w : World) (h : NoDisk w p) : Calls Try.prog 51 #[p] w fun e w' => e = .returned (.bool false) ∧ w = w' := by
  rcases h with rfl | ⟨b, rfl, hc⟩
  · exact made_nil w
  · exact made_at b 0 w hc
set_option maxRecDepth 100000 in
set_option maxHeartbeats 400000 in
theorem size_no (p : Value) (w : World) (h : NoDisk w p) : Calls Try.prog 41 #[p] w fun e w' => e = .returned (.int .i64 0) ∧ w = w' := by
  have HM := Lib.hid (made_no p w h)
  clear h
  go_enter Try.func41, Try.ntmps41
  go_wp2_with (first | (go_at_call 51; ((with_reducible refine HM.out.mono ?_); rintro e w1 ⟨rfl, rfl⟩)))
  go_ret
  exact ⟨rfl, rfl⟩
set_option maxRecDepth 100000 in
set_option maxHeartbeats 400000 in
theorem size_any (b : Nat) (n : Int) (w : World) (h : w.cell? ⟨b, 0, none⟩ = some (.int .i64 n)) (hn : 0 < n) : Calls Try.prog 41 #[.pointer (some ⟨b, 0, none⟩)] w fun e w' => e = .returned (.int .i64 n) ∧ w = w' := by
  have HM := Lib.hid (made_yes b n w h hn)
  go_enter Try.func41, Try.ntmps41
  go_wp2_with (first | (go_at_call 51; ((with_reducible refine HM.out.mono ?_); rintro e w1 ⟨rfl, rfl⟩)))
  go_ret
  exact ⟨rfl, rfl⟩
set_option maxRecDepth 100000 in
set_option maxHeartbeats 400000 in
theorem has_no (p : Value) (i : Int) (w : World) (h : NoDisk w p) : Calls Try.prog 61 #[p, .int .i64 i] w fun e w' => e = .returned (.int .i64 6) ∧ w = w' := by
  have HM := Lib.hid (made_no p w h)
  clear h
  go_enter Try.func61, Try.ntmps61
  go_wp2_with (first | (go_at_call 51; ((with_reducible refine HM.out.mono ?_); rintro e w1 ⟨rfl, rfl⟩)))
  go_ret
  exact ⟨rfl, rfl⟩
def hasV (n i : Int) : Int := if 0 ≤ i ∧ i < n then 0 else 1
set_option maxRecDepth 100000 in
set_option maxHeartbeats 400000 in
theorem has_any (b : Nat) (n i : Int) (w : World) (h : w.cell? ⟨b, 0, none⟩ = some (.int .i64 n)) (hn : 0 < n) : Calls Try.prog 61 #[.pointer (some ⟨b, 0, none⟩), .int .i64 i] w fun e w' => e = .returned (.int .i64 (hasV n i)) ∧ w = w' := by
  have HM := Lib.hid (made_yes b n w h hn)
  by_cases h1 : i < 0
  · rw [hasV, if_neg (by omega)]
    go_enter Try.func61, Try.ntmps61
    go_wp2_with (first | (go_at_call 51; ((with_reducible refine HM.out.mono ?_); rintro e w1 ⟨rfl, rfl⟩)))
    go_ret
    exact ⟨rfl, rfl⟩
  · by_cases h2 : n ≤ i
    · rw [hasV, if_neg (by omega)]
      go_enter Try.func61, Try.ntmps61
      go_wp2_with (first | (go_at_call 51; ((with_reducible refine HM.out.mono ?_); rintro e w1 ⟨rfl, rfl⟩)))
      go_ret
      exact ⟨rfl, rfl⟩
    · rw [hasV, if_pos (by omega)]
      go_enter Try.func61, Try.ntmps61
      go_wp2_with (first | (go_at_call 51; ((with_reducible refine HM.out.mono ?_); rintro e w1 ⟨rfl, rfl⟩)))
      go_ret
      exact ⟨rfl, rfl⟩
/-- A plan: what a call that would be OK tells, and what becomes of the plan. -/
def planV (D : DS) : Int × DS := if D.planned = false then (0, D) else if 0 < D.after then (0, { D with after := D.after - 1 }) else (D.err, { D with planned := false })
theorem DiskAt.upd {w : World} {b : Nat} {D D' : DS} {fs : Nat → Prop} (h : DiskAt w b D fs) (w' : World) (hb : ∀ r v, w.heap[b]? = some (.cells #[.int .i64 D.size, .map (some r), v, .bool D.planned, .int .i64 D.after, .int .i64 D.err] 38 (0, 0)) → w'.heap[b]? = some (.cells #[.int .i64 D.size, .map (some r), v, .bool D'.planned, .int .i64 D'.after, .int .i64 D'.err] 38 (0, 0)))
    (hk : ∀ i, i ≠ b → w'.heap[i]? = w.heap[i]?) (h1 : D'.size = D.size) (h2 : D'.sure = D.sure) (h3 : D'.pend = D.pend) : DiskAt w' b D' fs := by
  obtain ⟨r, v, hh, ⟨F, hm, hF⟩, hp, hf, ho⟩ := h
  have hrb : r ≠ b := fun e => by
    subst e
    obtain ⟨es, cl, l, hx, _⟩ := hm
    rw [hh] at hx; cases hx
  have hvb : ∀ g, v.ownBlock = some g → g ≠ b := fun g hg e => by
    subst e
    exact own_ne hp hh (by decide) hg.symm
  refine ⟨r, v, ?_, ⟨F, hm.keep (hk r hrb), by rw [h2]; exact hF⟩, ?_, hf, ?_⟩
  · rw [hb _ _ hh, h1]
  · rw [h3]; exact own_keep hp (fun g hg => hk g (hvb g hg))
  · exact ⟨by rw [h1]; exact ho.pos, by rw [h1]; exact ho.max, by rw [h2]; exact ho.sure, by rw [h3]; exact ho.pend⟩
theorem DiskAt.set3 {w : World} {b : Nat} {D : DS} {fs : Nat → Prop} (h : DiskAt w b D fs) (x : Bool) : DiskAt (w.setCell ⟨b, 3, none⟩ (.bool x)) b { D with planned := x } fs :=
  h.upd _ (fun _ _ hh => blk_set hh 3 (.bool x)) (fun i hi => Below.heap_setCell _ _ _ _ hi) rfl rfl rfl
theorem DiskAt.set4 {w : World} {b : Nat} {D : DS} {fs : Nat → Prop} (h : DiskAt w b D fs) (x : Int) : DiskAt (w.setCell ⟨b, 4, none⟩ (.int .i64 x)) b { D with after := x } fs :=
  h.upd _ (fun _ _ hh => blk_set hh 4 (.int .i64 x)) (fun i hi => Below.heap_setCell _ _ _ _ hi) rfl rfl rfl
theorem DiskAt.set5 {w : World} {b : Nat} {D : DS} {fs : Nat → Prop} (h : DiskAt w b D fs) (x : Int) : DiskAt (w.setCell ⟨b, 5, none⟩ (.int .i64 x)) b { D with err := x } fs :=
  h.upd _ (fun _ _ hh => blk_set hh 5 (.int .i64 x)) (fun i hi => Below.heap_setCell _ _ _ _ hi) rfl rfl rfl
theorem frame_set {fs : Nat → Prop} {w W : World} {b : Nat} (h : Frame fs w W) (hb : fs b) (j : Nat) (u : Value) : Frame fs w (W.setCell ⟨b, j, none⟩ u) := h.setCell (.inl hb) u
set_option maxRecDepth 100000 in
set_option maxHeartbeats 400000 in
theorem plan_any (b : Nat) (D : DS) (fs : Nat → Prop) (w : World) (h : DiskAt w b D fs) (ha : D.after ≤ 9223372036854775807) : Calls Try.prog 57 #[.pointer (some ⟨b, 0, none⟩)] w fun e w' => e = .returned (.int .i64 (planV D).1) ∧ DiskAt w' b (planV D).2 fs ∧ Frame fs w w' := by
  have H := Lib.hid h
  obtain ⟨r, v, hb, hs, hp, hf, ho⟩ := h
  have c3 : w.cell? ⟨b, 3, none⟩ = some (.bool D.planned) := (blk_cell hb 3).trans rfl
  have c4 : w.cell? ⟨b, 4, none⟩ = some (.int .i64 D.after) := (blk_cell hb 4).trans rfl
  have c5 : w.cell? ⟨b, 5, none⟩ = some (.int .i64 D.err) := (blk_cell hb 5).trans rfl
  have z3 := blk_frozen hb 3
  have z4 := blk_frozen hb 4
  have z5 := blk_frozen hb 5
  clear hb hs hp hf ho
  unfold planV
  rcases hpl : D.planned with _ | _
  · simp only [if_true]
    rw [hpl] at c3
    clear hpl
    go_enter Try.func57, Try.ntmps57
    go_wp2
    go_ret
    exact ⟨rfl, H.out, Frame.refl _ _⟩
  · rw [if_neg (by decide)]
    rw [hpl] at c3
    have HPL := Lib.hid hpl
    clear hpl
    by_cases ha0 : 0 < D.after
    · rw [if_pos ha0]
      go_enter Try.func57, Try.ntmps57
      go_wp2
      go_ret
      exact ⟨rfl, by have h := H.out.set4 (D.after - 1); rw [HPL.out] at h; exact h, frame_set (Frame.refl _ _) H.out.self _ _⟩
    · rw [if_neg ha0]
      go_enter Try.func57, Try.ntmps57
      go_wp2
      go_ret
      exact ⟨rfl, H.out.set3 _, frame_set (Frame.refl _ _) H.out.self _ _⟩
def failV (D : DS) (after e : Int) : Int × DS := if e = 160 ∨ e = 7 then (0, { D with planned := decide (0 ≤ after), after := after, err := e }) else (1, D)
set_option maxRecDepth 100000 in
set_option maxHeartbeats 400000 in
theorem fail_no (p : Value) (a e0 : Int) (w : World) (h : NoDisk w p) : Calls Try.prog 26 #[p, .int .i64 a, .int .i64 e0] w fun e w' => e = .returned (.int .i64 6) ∧ w = w' := by
  have HM := Lib.hid (made_no p w h)
  clear h
  go_enter Try.func26, Try.ntmps26
  go_wp2_with (first | (go_at_call 51; ((with_reducible refine HM.out.mono ?_); rintro e w1 ⟨rfl, rfl⟩)))
  go_ret
  exact ⟨rfl, rfl⟩
set_option maxRecDepth 100000 in
set_option maxHeartbeats 400000 in
theorem fail_any (b : Nat) (D : DS) (fs : Nat → Prop) (a e0 : Int) (w : World) (h : DiskAt w b D fs) : Calls Try.prog 26 #[.pointer (some ⟨b, 0, none⟩), .int .i64 a, .int .i64 e0] w fun e w' => e = .returned (.int .i64 (failV D a e0).1) ∧ DiskAt w' b (failV D a e0).2 fs ∧ Frame fs w w' := by
  have H := Lib.hid h
  have ho := h.ok
  obtain ⟨r, v, hb, _⟩ := h
  have c0 : w.cell? ⟨b, 0, none⟩ = some (.int .i64 D.size) := (blk_cell hb 0).trans rfl
  have c3 : w.cell? ⟨b, 3, none⟩ = some (.bool D.planned) := (blk_cell hb 3).trans rfl
  have c4 : w.cell? ⟨b, 4, none⟩ = some (.int .i64 D.after) := (blk_cell hb 4).trans rfl
  have c5 : w.cell? ⟨b, 5, none⟩ = some (.int .i64 D.err) := (blk_cell hb 5).trans rfl
  have z3 := blk_frozen hb 3
  have z4 := blk_frozen hb 4
  have z5 := blk_frozen hb 5
  have HM := Lib.hid (made_yes b D.size w c0 ho.pos)
  clear hb ho
  unfold failV
  by_cases he : e0 = 160 ∨ e0 = 7
  · rw [if_pos he]
    rcases he with rfl | rfl
    all_goals
      go_enter Try.func26, Try.ntmps26
      go_wp2_with (first | (go_at_call 51; ((with_reducible refine HM.out.mono ?_); rintro e w1 ⟨rfl, rfl⟩)))
      go_ret
      exact ⟨rfl, ((H.out.set3 _).set4 _).set5 _, frame_set (frame_set (frame_set (Frame.refl _ _) H.out.self _ _) H.out.self _ _) H.out.self _ _⟩
  · rw [if_neg he]
    have b1 : (e0 != 160) = true := bne_iff_ne.mpr (fun h => he (.inl h))
    have b2 : (e0 != 7) = true := bne_iff_ne.mpr (fun h => he (.inr h))
    clear he
    go_enter Try.func26, Try.ntmps26
    go_wp2_with (first | (go_at_call 51; ((with_reducible refine HM.out.mono ?_); rintro e w1 ⟨rfl, rfl⟩)))
    go_ret
    exact ⟨rfl, H.out, Frame.refl _ _⟩
end Go.Proofs.Ytlmdghafiadgjaa
