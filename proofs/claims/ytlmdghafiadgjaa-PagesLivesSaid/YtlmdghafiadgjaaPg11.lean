/- pages: a store's Commit, walked. -/
import Derived.Test.YtlmdghafiadgjaaPg10
namespace Go.Proofs.Ytlmdghafiadgjaa
set_option linter.unusedVariables false
set_option linter.unusedSimpArgs false
open Go.RowKit Go.Proofs.YtlmdghafiadgjaaW.PrintWords Go.Proofs.YtlmdghafiadgjaaW.PrintLast

theorem syncV_keeps (D : DS) : (syncV D).2.after ≤ D.after ∧ (syncV D).2.pend.length ≤ D.pend.length ∧ (syncV D).2.size = D.size := by
  unfold syncV
  have h1 := planV_after D
  obtain ⟨h2, h3, h4⟩ := planV_pend D
  split
  · exact ⟨h1, by rw [h2]; omega, h3⟩
  · exact ⟨h1, by simp, h3⟩
structure CR where
  e : Int
  D : DS
  T : Int
  R : List Int
  B : Bool
def scommitV (D : DS) (T : Int) (R : List Int) (B : Bool) (xs : List Int) : CR :=
  if B then ⟨7, D, T, R, B⟩
  else if (packV 1 (nxT T % 2) (nxT T) xs).2 ≠ 0 then ⟨(packV 1 (nxT T % 2) (nxT T) xs).2, D, T, R, B⟩
  else if (syncV D).1 ≠ 0 then ⟨(syncV D).1, (syncV D).2, T, R, true⟩
  else if (storeV (syncV D).2 (nxT T % 2) (packV 1 (nxT T % 2) (nxT T) xs).1).1 ≠ 0 then ⟨(storeV (syncV D).2 (nxT T % 2) (packV 1 (nxT T % 2) (nxT T) xs).1).1, (storeV (syncV D).2 (nxT T % 2) (packV 1 (nxT T % 2) (nxT T) xs).1).2, T, R, true⟩
  else if (syncV (storeV (syncV D).2 (nxT T % 2) (packV 1 (nxT T % 2) (nxT T) xs).1).2).1 ≠ 0 then ⟨(syncV (storeV (syncV D).2 (nxT T % 2) (packV 1 (nxT T % 2) (nxT T) xs).1).2).1, (syncV (storeV (syncV D).2 (nxT T % 2) (packV 1 (nxT T % 2) (nxT T) xs).1).2).2, T, R, true⟩
  else ⟨0, (syncV (storeV (syncV D).2 (nxT T % 2) (packV 1 (nxT T % 2) (nxT T) xs).1).2).2, nxT T, xs, false⟩
set_option maxRecDepth 100000 in
set_option maxHeartbeats 1000000 in
theorem scommit_no (v : Value) (x : Value) (w : World) (h : NoStore w v) : Calls Try.prog 17 #[v, x] w fun e w' => e = .returned (.int .i64 6) ∧ w = w' := by
  have HM := Lib.hid (smade_no v w h)
  clear h
  go_enter Try.func17, Try.ntmps17
  go_wp2_with (first | (go_at_call 46; ((with_reducible refine HM.out.mono ?_); rintro e w1 ⟨rfl, rfl⟩)))
  go_ret
  exact ⟨rfl, rfl⟩
/-- A store in w0's terms that stands in w1, its cells at hand. -/
theorem EffS.at_ {w w1 : World} {p b : Nat} {fs : Nat → Prop} {D : DS} {T : Int} {R : List Int} {B : Bool} (h : EffS w p b fs D T R B w1) :
    w1.cell? ⟨p, 0, none⟩ = some (.pointer (some ⟨b, 0, none⟩)) ∧ (∃ v, w1.heap[p]? = some (.cells #[.pointer (some ⟨b, 0, none⟩), .int .u64 T, v, .bool B] 34 (0, 0))) ∧ p < w1.heap.size := by
  obtain ⟨gs, h1, h2, h3, h4⟩ := h
  obtain ⟨v, hv, _⟩ := id h2
  exact ⟨h2.cells.1, ⟨v, hv⟩, h2.lt⟩
theorem EffS.join {w w1 w2 : World} {p b : Nat} {fs gs : Nat → Prop} {D' : DS} {T' : Int} {R' : List Int} {B' : Bool} (h3 : Frame (fun i => fs i ∨ i = p) w w1) (h4 : ∀ i, gs i → fs i ∨ w.heap.size ≤ i) (h5 : RootFrom w w1 p) (k : EffS w1 p b gs D' T' R' B' w2) : EffS w p b fs D' T' R' B' w2 := by
  obtain ⟨ks, k1, k2, k3, k4, k5⟩ := k
  exact ⟨ks, k1, k2, h3.trans k3 (fun i hi => hi.elim (fun h => (h4 i h).imp .inl id) (fun h => .inl (.inr h))), fun i hi => (k4 i hi).elim (h4 i) (fun h => .inr (Nat.le_trans h3.size h)), h5.trans k5 h3.size⟩
theorem EffS.sync_ {w w1 : World} {p b : Nat} {fs : Nat → Prop} {D : DS} {T : Int} {R : List Int} {B : Bool} (h : EffS w p b fs D T R B w1) (ha : D.after ≤ 9223372036854775807) :
    Calls Try.prog 47 #[.pointer (some ⟨b, 0, none⟩)] w1 fun e w' => e = .returned (.int .i64 (syncV D).1) ∧ EffS w p b fs (syncV D).2 T R B w' := by
  obtain ⟨gs, h1, h2, h3, h4, h5⟩ := h
  refine (sync_any b D gs w1 h1 ha).mono ?_
  rintro e w2 ⟨rfl, hE⟩
  exact ⟨rfl, EffS.join h3 h4 h5 (EffS.of h2 hE)⟩
theorem EffS.store_ {w w1 : World} {p b : Nat} {fs : Nat → Prop} {D : DS} {T : Int} {R : List Int} {B : Bool} (h : EffS w p b fs D T R B w1) (n : Int) (g : Nat) (xs : List Int) (hn : 0 ≤ n) (hn2 : n ≤ 20000) (ha : D.after ≤ 9223372036854775807) (hp : D.pend.length ≤ 999999000)
    (hr : RowP w g xs) (hl : xs.length = 1024) (hx : Bytes xs) (hg : ¬ fs g) (hgp : g ≠ p) :
    Calls Try.prog 45 #[.pointer (some ⟨b, 0, none⟩), .int .i64 n, .slice (some ⟨g, 0, none⟩) 1024 1024] w1 fun e w' => e = .returned (.int .i64 (storeV D n xs).1) ∧ EffS w p b fs (storeV D n xs).2 T R B w' := by
  obtain ⟨gs, h1, h2, h3, h4, h5⟩ := h
  have hgl := hr.lt
  have hr1 : RowP w1 g xs := hr.keep (h3.block g hgl (fun e => e.elim hg hgp))
  refine (store_any b D gs n g xs w1 h1 hn hn2 ha hp hr1 hl hx (fun e => (h4 g e).elim hg (fun h => by omega)) hr1.lt).mono ?_
  rintro e w2 ⟨rfl, hE⟩
  exact ⟨rfl, EffS.join h3 h4 h5 (EffS.of h2 hE)⟩
-- COMMIT
theorem reads_frame_pos {fs : Nat → Prop} {w w1 : World} {k : IntKind} {A : Option Addr} {n : Nat} {xs : List Int} (h : ReadsInt w k A n xs) (hf : Frame fs w w1) (hA : 0 < n → ∀ ad, A = some ad → ¬ fs ad.block) : ReadsInt w1 k A n xs :=
  ⟨h.1, h.2.1, fun h0 => (reads_frame h hf (hA h0)).2.2 h0⟩
theorem StoreAt.set12 {w : World} {p b : Nat} {T T' : Int} {xs : List Int} {fs : Nat → Prop} {v u : Value} (h : w.heap[p]? = some (.cells #[.pointer (some ⟨b, 0, none⟩), .int .u64 T, v, .bool true] 34 (0, 0))) (hu : ORow .u8 5 w 0 u xs) (hp : ¬ fs p) (hug : ∀ g, u.ownBlock = some g → g ≠ p ∧ ¬ fs g) :
    StoreAt (((w.setCell ⟨p, 1, none⟩ (.int .u64 T')).setCell ⟨p, 2, none⟩ u).setCell ⟨p, 3, none⟩ (.bool false)) p b T' xs false fs := by
  have h1 := blk_set h 1 (.int .u64 T')
  have h2 := blk_set h1 2 u
  have h3 := blk_set h2 3 (.bool false)
  refine ⟨u, h3, ?_, hp, hug⟩
  exact own_keep hu (fun g hg => (Below.heap_setCell _ _ _ _ (hug g hg).1).trans ((Below.heap_setCell _ _ _ _ (hug g hg).1).trans (Below.heap_setCell _ _ _ _ (hug g hg).1)))
set_option maxRecDepth 100000 in
set_option maxHeartbeats 8000000 in
theorem scommit_yes (p b : Nat) (D : DS) (T : Int) (R : List Int) (B : Bool) (fs : Nat → Prop) (A : Option Addr) (c : Nat) (xs : List Int) (w : World) (h : StoreAt w p b T R B fs) (hd : DiskAt w b D fs)
    (hr : ReadsInt w .u8 A xs.length xs) (hx : Bytes xs) (hA : 0 < xs.length → ∀ ad, A = some ad → ¬ fs ad.block ∧ ad.block ≠ p) (ha : D.after ≤ 9223372036854775807) (hp : D.pend.length ≤ 999998000) :
    Calls Try.prog 17 #[.pointer (some ⟨p, 0, none⟩), .slice A xs.length c] w fun e w' => e = .returned (.int .i64 (scommitV D T R B xs).e) ∧ EffS w p b fs (scommitV D T R B xs).D (scommitV D T R B xs).T (scommitV D T R B xs).R (scommitV D T R B xs).B w' := by
  obtain ⟨h0, h1, h3⟩ := h.cells
  have HM := Lib.hid (smade_yes p b w h0)
  have HEr := Lib.hid (EffS.refl hd h)
  unfold scommitV
  cases B with
  | true =>
    simp only [if_true]
    clear hd h hr
    go_enter Try.func17, Try.ntmps17
    go_wp2_with (first
      | (go_at_call 46; ((with_reducible refine HM.out.mono ?_); rintro e w1 ⟨rfl, rfl⟩)))
    go_ret
    exact ⟨rfl, HEr.out⟩
  | false =>
    simp only [Bool.false_eq_true, if_false]
    have hT : IntKind.u64.wrap (T + 1) = nxT T := nxT_w T
    have hTr := nxT_range T
    have hT2 : (nxT T).tmod 2 = nxT T % 2 := Int.tmod_eq_emod_of_nonneg (by omega)
    have hT3 : 0 ≤ nxT T % 2 := by omega
    have hT4 : nxT T % 2 ≤ 20000 := by omega
    have hT5 : wrap64 (nxT T % 2) = nxT T % 2 := wrap64_id _ (by omega) (by omega)
    have hT6 : IntKind.u64.wrap (nxT T % 2) = nxT T % 2 := by simp only [IntKind.wrap, IntKind.bits, IntKind.signed]; have e : (nxT T % 2) % 18446744073709551616 = nxT T % 2 := Int.emod_eq_of_lt (by omega) (by omega); simp [e]
    have HPK := Lib.hid (pack_any 1 (nxT T % 2) (nxT T) A c xs w hr hx (by decide) (by decide) hTr.1 hTr.2)
    have HEB0 := Lib.hid (fun w1 hB => EffS.below (w' := w1) hd h hB)
    have HEB := Lib.hid (fun w1 (hB : Below w.heap.size w w1) => EffS.refl (w := w1) (hd.below hB) (h.below hB))
    have HGG := Lib.hid (fun g (hg : w.heap.size ≤ g) => (show ¬ fs g ∧ g ≠ p from ⟨fun e => by have := hd.lt g e; omega, fun e => by have := h.lt; omega⟩))
    have HJ := Lib.hid (fun w1 w2 D2 T2 R2 B2 (hB : Below w.heap.size w w1) (hE : EffS w1 p b fs D2 T2 R2 B2 w2) => EffS.join (w := w) (gs := fs) (Below.frame_ hB) (fun _ h => .inl h) (RootFrom.same (hB.block p h.lt)) hE)
    by_cases hq : (packV 1 (nxT T % 2) (nxT T) xs).2 ≠ 0
    · simp only [if_pos hq]
      have hqb : ((packV 1 (nxT T % 2) (nxT T) xs).2 != 0) = true := bne_iff_ne.mpr hq
      clear hd h hr hx
      generalize (packV 1 (nxT T % 2) (nxT T) xs) = pk at *
      go_enter Try.func17, Try.ntmps17
      go_wp2_with (first
        | (go_at_call 46; ((with_reducible refine HM.out.mono ?_); rintro e w1 ⟨rfl, rfl⟩))
        | (go_at_call 10; ((with_reducible refine HPK.out.mono ?_); rintro e w1 ⟨v1, rfl, hB1, _, _⟩; have HB1 := Lib.hid hB1; clear hB1)))
      go_ret
      exact ⟨rfl, HEB0.out _ HB1.out⟩
    simp only [if_neg hq]
    have hq0 : (packV 1 (nxT T % 2) (nxT T) xs).2 = 0 := by simpa using hq
    have hm : xs.length ≤ 996 := by
      refine Classical.byContradiction fun h9 => hq (fun h8 => ?_)
      unfold packV at h8
      rw [if_pos (by omega)] at h8
      cases h8
    have hk1 := syncV_keeps D
    have hk2 := stoV_keeps (syncV D).2 (nxT T % 2) (packV 1 (nxT T % 2) (nxT T) xs).1 4
    have hD1 : D.after ≤ 9223372036854775807 := ha
    have hD2 : (syncV D).2.after ≤ 9223372036854775807 := by omega
    have hP2 : (syncV D).2.pend.length ≤ 999999000 := by omega
    have hD3 : (storeV (syncV D).2 (nxT T % 2) (packV 1 (nxT T % 2) (nxT T) xs).1).2.after ≤ 9223372036854775807 := by unfold storeV; omega
    have HCL := Lib.hid (fun w1 w5 (hB : Below w.heap.size w w1) {D2 : DS} (hE : EffS w1 p b fs D2 T R true w5) => clone_any A xs.length c xs w5 (by
      have hr1 := reads_below8 hr hB
      obtain ⟨_, _, _, hF, _⟩ := hE
      exact reads_frame_pos hr1 hF (fun h0 ad e h9 => h9.elim (hA h0 ad e).1 (hA h0 ad e).2)) (by omega))
    have HFIN := Lib.hid (fun w1 w5 w6 v6 (hB : Below w.heap.size w w1) {D2 : DS} (hE : EffS w1 p b fs D2 T R true w5) (hO : ORow .u8 5 w6 w5.heap.size v6 xs) (hB6 : Below w5.heap.size w5 w6) => (show ∃ v7, w6.heap[p]? = some (.cells #[.pointer (some ⟨b, 0, none⟩), .int .u64 T, v7, .bool true] 34 (0, 0)) ∧ EffS w p b fs D2 (nxT T) xs false (((w6.setCell ⟨p, 1, none⟩ (.int .u64 (nxT T))).setCell ⟨p, 2, none⟩ v6).setCell ⟨p, 3, none⟩ (.bool false)) by
      obtain ⟨gs, e1, e2, e3, e4, _⟩ := hE
      have e1' := e1.below hB6
      have e2' := e2.below hB6
      obtain ⟨v7, e5, _, e6, _⟩ := id e2'
      have hpl : p < w5.heap.size := e2.lt
      have hug : ∀ g, v6.ownBlock = some g → g ≠ p ∧ ¬ gs g := fun g hg => by
        have := (hO.lt g hg).1
        exact ⟨fun e => by omega, fun e => by have := e1.lt g e; omega⟩
      refine ⟨v7, e5, HJ.out w1 _ _ _ _ _ hB ⟨gs, ?_, StoreAt.set12 e5 (hO.lower (Nat.zero_le _)) e6 hug, ?_, e4, RootFrom.new (blk_set (blk_set (blk_set e5 1 _) 2 v6) 3 _) rfl (fun g hg => Nat.le_trans e3.size (hO.lt g hg).1)⟩⟩
      · exact e1'.keep (fun i hi => (Below.heap_setCell _ _ _ _ (fun e => e6 (by have e2 : i = p := e; rw [← e2]; exact hi))).trans ((Below.heap_setCell _ _ _ _ (fun e => e6 (by have e2 : i = p := e; rw [← e2]; exact hi))).trans (Below.heap_setCell _ _ _ _ (fun e => e6 (by have e2 : i = p := e; rw [← e2]; exact hi)))))
      · exact (((e3.trans (Below.frame_ (fs := fun i => fs i ∨ i = p) hB6) (fun i hi => .inl hi)).setCell (.inl (.inr rfl)) _).setCell (.inl (.inr rfl)) _).setCell (.inl (.inr rfl)) _))
    have HSY := Lib.hid (fun w1 w2 (hE : EffS w1 p b fs D T R true w2) => hE.sync_ hD1)
    have HSTO := Lib.hid (fun w1 w2 g (hE : EffS w1 p b fs (syncV D).2 T R true w2) hR hL hY hG hG2 => hE.store_ (nxT T % 2) g (packV 1 (nxT T % 2) (nxT T) xs).1 hT3 hT4 hD2 hP2 hR hL hY hG hG2)
    have HSZ := Lib.hid (fun w1 w2 (hE : EffS w1 p b fs (storeV (syncV D).2 (nxT T % 2) (packV 1 (nxT T % 2) (nxT T) xs).1).2 T R true w2) => hE.sync_ hD3)
    rw [hq0] at HPK
    clear hd h hr hx hq hA hk1 hk2
    generalize (packV 1 (nxT T % 2) (nxT T) xs) = pk at *
    generalize storeV (syncV D).2 (nxT T % 2) pk.1 = sto at *
    generalize syncV sto.2 = sz at *
    generalize syncV D = sy at *
    by_cases c1 : sy.1 ≠ 0
    · simp only [if_pos c1]
      have c1b : (sy.1 != 0) = true := bne_iff_ne.mpr c1
      go_enter Try.func17, Try.ntmps17
      go_wp2_with (first
        | (go_at_call 46; ((with_reducible refine HM.out.mono ?_); rintro e w1 ⟨rfl, rfl⟩))
        | (go_at_call 10; ((with_reducible refine HPK.out.mono ?_); rintro e w1 ⟨v1, rfl, hB1, hy, _⟩; obtain ⟨g, rfl, hR1, hg1, hl1, hby1, _⟩ := hy (by trivial); have HB1 := Lib.hid hB1; have HR1 := Lib.hid hR1; have HL1 := Lib.hid hl1; have HY1 := Lib.hid hby1; have HG1 := Lib.hid (HGG.out g hg1); have HE1 := Lib.hid (HEB.out w1 hB1); obtain ⟨f0, ⟨v8, hv8⟩, _⟩ := HE1.out.at_; have k3 := blk_frozen hv8 3; have f3 : w1.cell? ⟨p, 3, none⟩ = some (.bool false) := (blk_cell hv8 3).trans rfl; have HE2 := Lib.hid (HE1.out.set3 true); obtain ⟨g0, ⟨v9, hv9⟩, _⟩ := HE2.out.at_; have HS2 := Lib.hid (HSY.out w1 _ HE2.out); clear hB1 hy hR1 hv8 hv9 hl1 hby1))
        | (go_at_call 47; ((with_reducible refine HS2.out.mono ?_); rintro e w3 ⟨rfl, hE3⟩; have HE3 := Lib.hid hE3; obtain ⟨m0, _, _⟩ := hE3.at_; clear hE3; skip)))
      go_ret
      exact ⟨rfl, HJ.out _ _ _ _ _ _ HB1.out HE3.out⟩
    simp only [if_neg c1]
    have c1b : (sy.1 != 0) = false := by simpa using c1
    by_cases c2 : sto.1 ≠ 0
    · simp only [if_pos c2]
      have c2b : (sto.1 != 0) = true := bne_iff_ne.mpr c2
      go_enter Try.func17, Try.ntmps17
      go_wp2_with (first
        | (go_at_call 46; ((with_reducible refine HM.out.mono ?_); rintro e w1 ⟨rfl, rfl⟩))
        | (go_at_call 10; ((with_reducible refine HPK.out.mono ?_); rintro e w1 ⟨v1, rfl, hB1, hy, _⟩; obtain ⟨g, rfl, hR1, hg1, hl1, hby1, _⟩ := hy (by trivial); have HB1 := Lib.hid hB1; have HR1 := Lib.hid hR1; have HL1 := Lib.hid hl1; have HY1 := Lib.hid hby1; have HG1 := Lib.hid (HGG.out g hg1); have HE1 := Lib.hid (HEB.out w1 hB1); obtain ⟨f0, ⟨v8, hv8⟩, _⟩ := HE1.out.at_; have k3 := blk_frozen hv8 3; have f3 : w1.cell? ⟨p, 3, none⟩ = some (.bool false) := (blk_cell hv8 3).trans rfl; have HE2 := Lib.hid (HE1.out.set3 true); obtain ⟨g0, ⟨v9, hv9⟩, _⟩ := HE2.out.at_; have HS2 := Lib.hid (HSY.out w1 _ HE2.out); clear hB1 hy hR1 hv8 hv9 hl1 hby1))
        | (go_at_call 47; ((with_reducible refine HS2.out.mono ?_); rintro e w3 ⟨rfl, hE3⟩; have HE3 := Lib.hid hE3; obtain ⟨m0, _, _⟩ := hE3.at_; clear hE3; have HS3 := Lib.hid (HSTO.out w1 _ g HE3.out HR1.out HL1.out HY1.out HG1.out.1 HG1.out.2)))
        | (go_at_call 45; ((with_reducible refine HS3.out.mono ?_); rintro e w4 ⟨rfl, hE4⟩; have HE4 := Lib.hid hE4; obtain ⟨n0, _, _⟩ := hE4.at_; have HS4 := Lib.hid (HSZ.out w1 _ hE4); clear hE4)))
      go_ret
      exact ⟨rfl, HJ.out _ _ _ _ _ _ HB1.out HE4.out⟩
    simp only [if_neg c2]
    have c2b : (sto.1 != 0) = false := by simpa using c2
    by_cases c3 : sz.1 ≠ 0
    · simp only [if_pos c3]
      have c3b : (sz.1 != 0) = true := bne_iff_ne.mpr c3
      go_enter Try.func17, Try.ntmps17
      go_wp2_with (first
        | (go_at_call 46; ((with_reducible refine HM.out.mono ?_); rintro e w1 ⟨rfl, rfl⟩))
        | (go_at_call 10; ((with_reducible refine HPK.out.mono ?_); rintro e w1 ⟨v1, rfl, hB1, hy, _⟩; obtain ⟨g, rfl, hR1, hg1, hl1, hby1, _⟩ := hy (by trivial); have HB1 := Lib.hid hB1; have HR1 := Lib.hid hR1; have HL1 := Lib.hid hl1; have HY1 := Lib.hid hby1; have HG1 := Lib.hid (HGG.out g hg1); have HE1 := Lib.hid (HEB.out w1 hB1); obtain ⟨f0, ⟨v8, hv8⟩, _⟩ := HE1.out.at_; have k3 := blk_frozen hv8 3; have f3 : w1.cell? ⟨p, 3, none⟩ = some (.bool false) := (blk_cell hv8 3).trans rfl; have HE2 := Lib.hid (HE1.out.set3 true); obtain ⟨g0, ⟨v9, hv9⟩, _⟩ := HE2.out.at_; have HS2 := Lib.hid (HSY.out w1 _ HE2.out); clear hB1 hy hR1 hv8 hv9 hl1 hby1))
        | (go_at_call 47; ((with_reducible refine HS2.out.mono ?_); rintro e w3 ⟨rfl, hE3⟩; have HE3 := Lib.hid hE3; obtain ⟨m0, _, _⟩ := hE3.at_; clear hE3; have HS3 := Lib.hid (HSTO.out w1 _ g HE3.out HR1.out HL1.out HY1.out HG1.out.1 HG1.out.2)))
        | (go_at_call 45; ((with_reducible refine HS3.out.mono ?_); rintro e w4 ⟨rfl, hE4⟩; have HE4 := Lib.hid hE4; obtain ⟨n0, _, _⟩ := hE4.at_; have HS4 := Lib.hid (HSZ.out w1 _ hE4); clear hE4))
        | (go_at_call 47; ((with_reducible refine HS4.out.mono ?_); rintro e w5 ⟨rfl, hE5⟩; have HE5 := Lib.hid hE5; have HC5 := Lib.hid (HCL.out w1 w5 HB1.out hE5); clear hE5)))
      go_ret
      exact ⟨rfl, HJ.out _ _ _ _ _ _ HB1.out HE5.out⟩
    simp only [if_neg c3]
    have c3b : (sz.1 != 0) = false := by simpa using c3
    go_enter Try.func17, Try.ntmps17
    go_wp2_with (first
      | (go_at_call 46; ((with_reducible refine HM.out.mono ?_); rintro e w1 ⟨rfl, rfl⟩))
      | (go_at_call 10; ((with_reducible refine HPK.out.mono ?_); rintro e w1 ⟨v1, rfl, hB1, hy, _⟩; obtain ⟨g, rfl, hR1, hg1, hl1, hby1, _⟩ := hy (by trivial); have HB1 := Lib.hid hB1; have HR1 := Lib.hid hR1; have HL1 := Lib.hid hl1; have HY1 := Lib.hid hby1; have HG1 := Lib.hid (HGG.out g hg1); have HE1 := Lib.hid (HEB.out w1 hB1); obtain ⟨f0, ⟨v8, hv8⟩, _⟩ := HE1.out.at_; have k3 := blk_frozen hv8 3; have f3 : w1.cell? ⟨p, 3, none⟩ = some (.bool false) := (blk_cell hv8 3).trans rfl; have HE2 := Lib.hid (HE1.out.set3 true); obtain ⟨g0, ⟨v9, hv9⟩, _⟩ := HE2.out.at_; have HS2 := Lib.hid (HSY.out w1 _ HE2.out); clear hB1 hy hR1 hv8 hv9 hl1 hby1))
      | (go_at_call 47; ((with_reducible refine HS2.out.mono ?_); rintro e w3 ⟨rfl, hE3⟩; have HE3 := Lib.hid hE3; obtain ⟨m0, _, _⟩ := hE3.at_; clear hE3; have HS3 := Lib.hid (HSTO.out w1 _ g HE3.out HR1.out HL1.out HY1.out HG1.out.1 HG1.out.2)))
      | (go_at_call 45; ((with_reducible refine HS3.out.mono ?_); rintro e w4 ⟨rfl, hE4⟩; have HE4 := Lib.hid hE4; obtain ⟨n0, _, _⟩ := hE4.at_; have HS4 := Lib.hid (HSZ.out w1 _ hE4); clear hE4))
      | (go_at_call 47; ((with_reducible refine HS4.out.mono ?_); rintro e w5 ⟨rfl, hE5⟩; have HE5 := Lib.hid hE5; have HC5 := Lib.hid (HCL.out w1 w5 HB1.out hE5); clear hE5))
      | (go_at_call 39; ((with_reducible refine HC5.out.mono ?_); rintro e w6 ⟨v6, rfl, hO6, hB6⟩; have HF := Lib.hid (HFIN.out w1 w5 w6 v6 HB1.out HE5.out hO6 hB6); obtain ⟨A6, c6, rfl, _, _⟩ := hO6.reads; clear hO6 hB6; obtain ⟨v7, hv7, HFF⟩ := HF.out; have HV7 := Lib.hid hv7; have j1 := blk_frozen hv7 1; have j2 := blk_frozen hv7 2; have j3 := blk_frozen hv7 3; have i1 : w6.cell? ⟨p, 1, none⟩ = some (.int .u64 T) := (blk_cell hv7 1).trans rfl; have i2 : w6.cell? ⟨p, 2, none⟩ = some v7 := (blk_cell hv7 2).trans rfl; have i3 : w6.cell? ⟨p, 3, none⟩ = some (.bool true) := (blk_cell hv7 3).trans rfl; clear hv7)))
    go_ret
    exact ⟨rfl, HFF⟩
end Go.Proofs.Ytlmdghafiadgjaa
