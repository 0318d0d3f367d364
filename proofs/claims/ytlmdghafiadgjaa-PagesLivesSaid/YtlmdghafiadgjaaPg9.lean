/- pages: a store's Read and Write, walked. -/
import Derived.Test.YtlmdghafiadgjaaPg8
namespace Go.Proofs.Ytlmdghafiadgjaa
set_option linter.unusedVariables false
set_option linter.unusedSimpArgs false
open Go.RowKit Go.Proofs.YtlmdghafiadgjaaW.PrintWords Go.Proofs.YtlmdghafiadgjaaW.PrintLast

theorem results_tmp3 {fn : Func} {t u v : Tmp} (h : fn.results = #[.tmp t, .tmp u, .tmp v]) (tmps : Array Value) (P : Program) (w : World) :
    (results fn tmps).run P w = .ok (.tuple #[tmps.getD t undef, tmps.getD u undef, tmps.getD v undef]) w := by
  simp [results, h]
theorem StoreAt.upd {w w' : World} {p b : Nat} {T T' : Int} {R : List Int} {B B' : Bool} {fs : Nat → Prop} (h : StoreAt w p b T R B fs)
    (hb : ∀ v, w.heap[p]? = some (.cells #[.pointer (some ⟨b, 0, none⟩), .int .u64 T, v, .bool B] 34 (0, 0)) → w'.heap[p]? = some (.cells #[.pointer (some ⟨b, 0, none⟩), .int .u64 T', v, .bool B'] 34 (0, 0)))
    (hk : ∀ i, i ≠ p → w'.heap[i]? = w.heap[i]?) : StoreAt w' p b T' R B' fs := by
  obtain ⟨v, h1, h2, h3, h4⟩ := h
  exact ⟨v, hb v h1, own_keep h2 (fun g hg => hk g (h4 g hg).1), h3, h4⟩
theorem StoreAt.set3 {w : World} {p b : Nat} {T : Int} {R : List Int} {B : Bool} {fs : Nat → Prop} (h : StoreAt w p b T R B fs) (x : Bool) : StoreAt (w.setCell ⟨p, 3, none⟩ (.bool x)) p b T R x fs :=
  h.upd (fun _ hh => blk_set hh 3 (.bool x)) (fun i hi => Below.heap_setCell _ _ _ _ hi)
/-- A store's root is in a block that was its root's, or in a new one. -/
def RootFrom (w w' : World) (p : Nat) : Prop := ∀ c t fr, w'.heap[p]? = some (.cells c t fr) → ∀ g, (c.getD 2 undef).ownBlock = some g → w.heap.size ≤ g ∨ ∃ d t' fr', w.heap[p]? = some (.cells d t' fr') ∧ (d.getD 2 undef).ownBlock = some g
theorem RootFrom.refl (w : World) (p : Nat) : RootFrom w w p := fun c t fr h g hg => .inr ⟨c, t, fr, h, hg⟩
theorem RootFrom.same {w w' : World} {p : Nat} (h : w'.heap[p]? = w.heap[p]?) : RootFrom w w' p := fun c t fr hc g hg => .inr ⟨c, t, fr, h ▸ hc, hg⟩
theorem RootFrom.trans {a b c : World} {p : Nat} (h : RootFrom a b p) (k : RootFrom b c p) (hs : a.heap.size ≤ b.heap.size) : RootFrom a c p := fun x t fr hx g hg =>
  (k x t fr hx g hg).elim (fun h9 => .inl (Nat.le_trans hs h9)) (fun ⟨d, t', fr', hd, hg'⟩ => h d t' fr' hd g hg')
theorem RootFrom.set {w w' : World} {p : Nat} {cs : Array Value} {t : TypeId} (h : RootFrom w w' p) (hb : w'.heap[p]? = some (.cells cs t (0, 0))) (j : Nat) (hj : j ≠ 2) (u : Value) : RootFrom w (w'.setCell ⟨p, j, none⟩ u) p := by
  intro c t2 fr hc g hg
  rw [blk_set hb j u] at hc
  injection hc with hc
  injection hc with h1 h2 h3
  subst h1
  refine h cs t _ hb g ?_
  rw [← hg]
  congr 1
  simp [Array.getD_eq_getD_getElem?, Array.getElem?_setIfInBounds, hj]
theorem RootFrom.new {w w' : World} {p : Nat} {cs : Array Value} {t : TypeId} {v : Value} (hb : w'.heap[p]? = some (.cells cs t (0, 0))) (hv : cs.getD 2 undef = v) (hg : ∀ g, v.ownBlock = some g → w.heap.size ≤ g) : RootFrom w w' p := by
  intro c t2 fr hc g hgg
  rw [hb] at hc
  injection hc with hc
  injection hc with h1 h2 h3
  subst h1
  rw [hv] at hgg
  exact .inl (hg g hgg)
/-- What becomes of a store and of its disk. -/
def EffS (w : World) (p b : Nat) (fs : Nat → Prop) (D' : DS) (T' : Int) (R' : List Int) (B' : Bool) (w' : World) : Prop :=
  ∃ fs', DiskAt w' b D' fs' ∧ StoreAt w' p b T' R' B' fs' ∧ Frame (fun i => fs i ∨ i = p) w w' ∧ (∀ i, fs' i → fs i ∨ w.heap.size ≤ i) ∧ RootFrom w w' p
theorem EffS.refl {w : World} {p b : Nat} {fs : Nat → Prop} {D : DS} {T : Int} {R : List Int} {B : Bool} (h : DiskAt w b D fs) (k : StoreAt w p b T R B fs) : EffS w p b fs D T R B w := ⟨fs, h, k, Frame.refl _ _, fun _ h => .inl h, RootFrom.refl _ _⟩
theorem EffS.below {w w' : World} {p b : Nat} {fs : Nat → Prop} {D : DS} {T : Int} {R : List Int} {B : Bool} (h : DiskAt w b D fs) (k : StoreAt w p b T R B fs) (hb : Below w.heap.size w w') : EffS w p b fs D T R B w' := ⟨fs, h.below hb, k.below hb, Below.frame_ hb, fun _ h => .inl h, RootFrom.same (hb.block p k.lt)⟩
/-- The disk has turned under the store. -/
theorem EffS.disk {w w1 w' : World} {p b : Nat} {fs : Nat → Prop} {D D' : DS} {T : Int} {R : List Int} {B B' : Bool} (h : EffS w p b fs D T R B w1) (hk : ∀ gs, DiskAt w1 b D gs → StoreAt w1 p b T R B gs → (∀ i, gs i → fs i ∨ w.heap.size ≤ i) → EffS w1 p b gs D' T R B' w') : EffS w p b fs D' T R B' w' := by
  obtain ⟨gs, h1, h2, h3, h4, h5⟩ := h
  obtain ⟨ks, k1, k2, k3, k4, k5⟩ := hk gs h1 h2 h4
  exact ⟨ks, k1, k2, h3.trans k3 (fun i hi => hi.elim (fun h => (h4 i h).imp .inl id) (fun h => .inl (.inr h))), fun i hi => (k4 i hi).elim (h4 i) (fun h => .inr (Nat.le_trans h3.size h)), h5.trans k5 h3.size⟩
theorem EffS.of {w w' : World} {p b : Nat} {fs : Nat → Prop} {D' : DS} {T : Int} {R : List Int} {B : Bool} (k : StoreAt w p b T R B fs) (h : Eff w b fs D' w') : EffS w p b fs D' T R B w' := by
  obtain ⟨gs, h1, h2, h3⟩ := h
  exact ⟨gs, h1, k.eff h2 (fun _ h => .inl h) h3, h2.mono (fun _ h => .inl h), h3, RootFrom.same (h2.block p k.lt (by obtain ⟨_, _, _, h9, _⟩ := k; exact h9))⟩
theorem EffS.set3 {w w' : World} {p b : Nat} {fs : Nat → Prop} {D : DS} {T : Int} {R : List Int} {B : Bool} (h : EffS w p b fs D T R B w') (x : Bool) : EffS w p b fs D T R x (w'.setCell ⟨p, 3, none⟩ (.bool x)) := by
  obtain ⟨gs, h1, h2, h3, h4, h5⟩ := h
  have hn : ¬ gs p := by obtain ⟨_, _, _, h, _⟩ := h2; exact h
  exact ⟨gs, h1.keep (fun i hi => Below.heap_setCell _ _ _ _ (fun e => hn (by have e2 : i = p := e; rw [← e2]; exact hi))), h2.set3 x, h3.setCell (.inl (.inr rfl)) _, h4, by obtain ⟨v, hv, _⟩ := h2; exact h5.set hv 3 (by decide) _⟩
def readPV (D : DS) (n : Int) : Int × List Int × Int :=
  if dataV (D.size / 4) n ≠ 0 then (0, [], dataV (D.size / 4) n) else ((unpackV (loadV D n) n).1, (unpackV (loadV D n) n).2.2.1, (unpackV (loadV D n) n).2.2.2)
theorem dataV_ok {N n : Int} (h : dataV N n = 0) : 2 ≤ n ∧ n < N := by
  unfold dataV at h
  split at h
  · cases h
  · rename_i h2; omega
set_option maxRecDepth 100000 in
set_option maxHeartbeats 1000000 in
theorem sread_no (v : Value) (n : Int) (w : World) (h : NoStore w v) : Calls Try.prog 15 #[v, .int .i64 n] w fun e w' => e = .returned (.tuple #[.int .u8 0, .slice none 0 0, .int .i64 6]) ∧ w = w' := by
  have HM := Lib.hid (data_no v n w h)
  clear h
  go_enter Try.func15, Try.ntmps15
  go_wp2_with (first | (go_at_call 44; ((with_reducible refine HM.out.mono ?_); rintro e w1 ⟨rfl, rfl⟩)))
  (try simp only [Exit.inBlock, Exit.then])
  refine bodyPost_ret (results_tmp3 rfl _ _ _) rfl ?_
  exact ⟨rfl, rfl⟩
set_option maxRecDepth 100000 in
set_option maxHeartbeats 1000000 in
theorem sread_yes (p b : Nat) (D : DS) (T : Int) (R : List Int) (B : Bool) (fs : Nat → Prop) (n : Int) (w : World) (h : StoreAt w p b T R B fs) (hd : DiskAt w b D fs) :
    Calls Try.prog 15 #[.pointer (some ⟨p, 0, none⟩), .int .i64 n] w fun e w' => ∃ v, e = .returned (.tuple #[.int .u8 (readPV D n).1, v, .int .i64 (readPV D n).2.2]) ∧ ORow .u8 5 w' w.heap.size v (readPV D n).2.1 ∧ Below w.heap.size w w' := by
  obtain ⟨h0, h1, h3⟩ := h.cells
  have ho := hd.ok
  have c0 : w.cell? ⟨b, 0, none⟩ = some (.int .i64 D.size) := by obtain ⟨r, v, hv⟩ := hd; exact (blk_cell hv.blk 0).trans rfl
  have HM := Lib.hid (data_yes p b D.size n w h0 c0 ho.pos ho.max)
  unfold readPV
  by_cases hz : dataV (D.size / 4) n ≠ 0
  · simp only [if_pos hz]
    have hzb : (dataV (D.size / 4) n != 0) = true := bne_iff_ne.mpr hz
    clear hd h c0 ho
    generalize dataV (D.size / 4) n = dv at *
    go_enter Try.func15, Try.ntmps15
    go_wp2_with (first | (go_at_call 44; ((with_reducible refine HM.out.mono ?_); rintro e w1 ⟨rfl, rfl⟩)))
    (try simp only [Exit.inBlock, Exit.then])
    refine bodyPost_ret (results_tmp3 rfl _ _ _) rfl ?_
    exact ⟨_, rfl, ORow.nil _ _ _ _, Below.refl _ _⟩
  · simp only [if_neg hz]
    have hz0 : dataV (D.size / 4) n = 0 := by simpa using hz
    have hn := dataV_ok hz0
    have hmx := ho.max
    rw [hz0] at HM
    have HL := Lib.hid (load_any b D fs n w hd (by omega) (by omega))
    have HLB := Lib.hid (loadK_bytes D ho n 4)
    have HU := Lib.hid (fun A c W (hr : ReadsInt W .u8 A (loadV D n).length (loadV D n)) => unpack_any A (loadV D n).length c (loadV D n) n W hr HLB.out)
    clear hd h c0 ho hz hz0
    generalize unpackV (loadV D n) n = uv at *
    generalize (loadV D n) = lv at *
    go_enter Try.func15, Try.ntmps15
    go_wp2_with (first
      | (go_at_call 44; ((with_reducible refine HM.out.mono ?_); rintro e w1 ⟨rfl, rfl⟩))
      | (go_at_call 42; ((with_reducible refine HL.out.mono ?_); rintro e w1 ⟨v1, rfl, hO1, hB1⟩; obtain ⟨A1, c1, rfl, hc1, hr1⟩ := hO1.reads; have HB1 := Lib.hid hB1; have HU1 := Lib.hid (HU.out A1 c1 w1 hr1); clear hO1 hB1 hr1))
      | (go_at_call 12; ((with_reducible refine HU1.out.mono ?_); rintro e w2 ⟨v2, rfl, hO2, hB2⟩; have HO2 := Lib.hid (hO2.lower HB1.out.size); have HB2 := Lib.hid (below_then HB1.out HB1.out.size hB2); clear hO2 hB2)))
    (try simp only [Exit.inBlock, Exit.then])
    refine bodyPost_ret (results_tmp3 rfl _ _ _) rfl ?_
    exact ⟨_, rfl, HO2.out, HB2.out⟩
end Go.Proofs.Ytlmdghafiadgjaa
