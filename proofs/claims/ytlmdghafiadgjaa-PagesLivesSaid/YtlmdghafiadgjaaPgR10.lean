/- The document's pages: Commit, walked. -/
import Derived.Test.YtlmdghafiadgjaaPgR9
namespace Go.Proofs.Ytlmdghafiadgjaa
set_option maxRecDepth 100000
set_option linter.unusedVariables false
set_option linter.unusedSimpArgs false
open Go.RowKit Go.Proofs.YtlmdghafiadgjaaW.PrintWords Go.Proofs.YtlmdghafiadgjaaW.PrintLast

theorem RStoreAt.set12 {w : World} {y x : Nat} {T T' : Int} {xs : List Int} {gs : Nat → Prop} {v u : Value} (h : w.heap[y]? = some (.cells #[.pointer (some ⟨x, 0, none⟩), .int .u64 T, v, .bool false] 65 (0, 0))) (hu : ORow .u8 5 w 0 u xs) (hp : ¬ gs y) (hug : ∀ g, u.ownBlock = some g → g ≠ y ∧ ¬ gs g) :
    RStoreAt ((w.setCell ⟨y, 1, none⟩ (.int .u64 T')).setCell ⟨y, 2, none⟩ u) y x T' xs false gs := by
  have h1 := blk_set h 1 (.int .u64 T')
  have h2 := blk_set h1 2 u
  refine ⟨u, h2, ?_, hp, hug⟩
  exact own_keep hu (fun g hg => (Below.heap_setCell _ _ _ _ (hug g hg).1).trans (Below.heap_setCell _ _ _ _ (hug g hg).1))
set_option maxHeartbeats 16000000 in
theorem rscommit_yes (y x : Nat) (D : DS) (R : RS) (T : Int) (r : List Int) (B : Bool) (gs : Nat → Prop) (m : Nat) (A : Option Addr) (c : Nat) (xs : List Int) (w : World) (h : RStoreAt w y x T r B gs) (hd : RefAt w x R gs) (hm : RM D R m) (ho : D.Ok)
    (hr : ReadsInt w .u8 A xs.length xs) (hx : Bytes xs) (hA : 0 < xs.length → ∀ ad, A = some ad → ¬ gs ad.block ∧ ad.block ≠ y) (hmm : m ≤ 900000000) :
    Calls Try.prog 25 #[.pointer (some ⟨y, 0, none⟩), .slice A xs.length c] w fun e w' => e = .returned (.int .i64 (scommitV D T r B xs).e) ∧ ∃ R', RM (scommitV D T r B xs).D R' (m + 4) ∧ EffR w y x gs R' (scommitV D T r B xs).T (scommitV D T r B xs).R (scommitV D T r B xs).B w' := by
  obtain ⟨h0, h1, h3⟩ := h.cells
  have HEr := Lib.hid (EffR.refl hd h)
  have HM0 := Lib.hid (hm.more (Nat.le_add_right m 4))
  unfold scommitV
  cases B with
  | true =>
    simp only [if_true]
    clear hd h hr hm
    go_enter Try.func25, Try.ntmps25
    go_wp2
    go_ret
    exact ⟨rfl, R, HM0.out, HEr.out⟩
  | false =>
    simp only [Bool.false_eq_true, if_false]
    have hT : IntKind.u64.wrap (T + 1) = nxT T := nxT_w T
    have hTr := nxT_range T
    have hT2 : (nxT T).tmod 2 = nxT T % 2 := Int.tmod_eq_emod_of_nonneg (by omega)
    have hT3 : 0 ≤ nxT T % 2 := by omega
    have hT4 : nxT T % 2 ≤ 20000 := by omega
    have hT5 : wrap64 (nxT T % 2) = nxT T % 2 := wrap64_id _ (by omega) (by omega)
    have hT6 : IntKind.u64.wrap (nxT T % 2) = nxT T % 2 := u64_id (by omega) (by omega)
    have HPK := Lib.hid (rpack_any 1 (nxT T % 2) (nxT T) A c xs w hr hx (by decide) hTr)
    have HEB0 := Lib.hid (fun w1 hB => EffR.below (w' := w1) hd h hB)
    have HEB := Lib.hid (fun w1 (hB : Below w.heap.size w w1) => EffR.refl (w := w1) (hd.below hB) (h.below hB))
    have HGG := Lib.hid (fun g (hg : w.heap.size ≤ g) => (show ¬ gs g ∧ g ≠ y from ⟨fun e => by have := hd.lt g e; omega, fun e => by have := h.lt; omega⟩))
    have HJ := Lib.hid (fun w1 w2 D2 T2 R2 B2 (hB : Below w.heap.size w w1) (hE : EffR w1 y x gs D2 T2 R2 B2 w2) => EffR.join (w := w) (gs := gs) (Below.frame_ hB) (fun _ h => .inl h) (RootFrom.same (hB.block y h.lt)) hE)
    by_cases hq : (packV 1 (nxT T % 2) (nxT T) xs).2 ≠ 0
    · simp only [if_pos hq]
      have hqb : ((packV 1 (nxT T % 2) (nxT T) xs).2 != 0) = true := bne_iff_ne.mpr hq
      clear hd h hr hx hm hTr
      generalize (packV 1 (nxT T % 2) (nxT T) xs) = pk at *
      go_enter Try.func25, Try.ntmps25
      go_wp2_with (first
        | (go_at_call 11; ((with_reducible refine HPK.out.mono ?_); rintro e w1 ⟨v1, rfl, hO1, hB1⟩; have HB1 := Lib.hid hB1; clear hO1 hB1)))
      go_ret
      exact ⟨rfl, R, HM0.out, HEB0.out _ HB1.out⟩
    simp only [if_neg hq]
    have hq0 : (packV 1 (nxT T % 2) (nxT T) xs).2 = 0 := by simpa using hq
    have hml : xs.length ≤ 996 := by
      refine Classical.byContradiction fun h9 => hq (fun h8 => ?_)
      unfold packV at h8
      rw [if_pos (by omega)] at h8
      cases h8
    have hpk : (packV 1 (nxT T % 2) (nxT T) xs).1.length = 1024 ∧ Bytes (packV 1 (nxT T % 2) (nxT T) xs).1 := by
      have e : packV 1 (nxT T % 2) (nxT T) xs = (packL 1 (nxT T % 2) (nxT T) xs, 0) := by
        unfold packV
        rw [if_neg (by omega), if_neg (by omega)]
      rw [e]
      exact ⟨packL_len hml, packL_bytes (by decide) hx⟩
    obtain ⟨s1, s2⟩ := hm.sync
    obtain ⟨t1, t2⟩ := s2.sto (nxT T % 2) (packV 1 (nxT T % 2) (nxT T) xs).1 4
    obtain ⟨z1, z2⟩ := t2.sync
    have HSY := Lib.hid (fun w1 w2 (hE : EffR w1 y x gs R T r false w2) => hE.sync_ hm.r (by have := hm.n; omega))
    have HSTO := Lib.hid (fun w1 w2 g c' (hE : EffR w1 y x gs (syncR R).2 T r false w2) hR hc' hG hG2 hgl => hE.put_ (nxT T % 2) g c' (packV 1 (nxT T % 2) (nxT T) xs).1 hT3 hT4 s2.r (by have := s2.n; omega) hR hpk.2 hc' hG hG2 hgl)
    have HSZ := Lib.hid (fun w1 w2 (hE : EffR w1 y x gs (rstoR (syncR R).2 (nxT T % 2) (packV 1 (nxT T % 2) (nxT T) xs).1 4).2 T r false w2) => hE.sync_ t2.r (by have := t2.n; omega))
    have HCL := Lib.hid (fun w1 w5 (hB : Below w.heap.size w w1) {D2 : RS} (hE : EffR w1 y x gs D2 T r false w5) => copy_any A xs.length c xs w5 (by
      have hr1 := reads_below8 hr hB
      obtain ⟨_, _, _, hF, _⟩ := hE
      exact reads_frame_pos hr1 hF (fun h0 ad e h9 => h9.elim (hA h0 ad e).1 (hA h0 ad e).2)) (by omega))
    have HFIN := Lib.hid (fun w1 w5 w6 v6 (hB : Below w.heap.size w w1) {D2 : RS} (hE : EffR w1 y x gs D2 T r false w5) (hO : ORow .u8 5 w6 w5.heap.size v6 xs) (hB6 : Below w5.heap.size w5 w6) => (show EffR w y x gs D2 (nxT T) xs false ((w6.setCell ⟨y, 1, none⟩ (.int .u64 (nxT T))).setCell ⟨y, 2, none⟩ v6) by
      obtain ⟨gs1, e1, e2, e3, e4, _⟩ := hE
      have e1' := e1.below hB6
      have e2' := e2.below hB6
      obtain ⟨v7, e5, _, e6, _⟩ := id e2'
      have hpl : y < w5.heap.size := e2.lt
      have hug : ∀ g, v6.ownBlock = some g → g ≠ y ∧ ¬ gs1 g := fun g hg => by
        have := (hO.lt g hg).1
        exact ⟨fun e => by omega, fun e => by have := e1.lt g e; omega⟩
      refine HJ.out w1 _ _ _ _ _ hB ⟨gs1, ?_, RStoreAt.set12 e5 (hO.lower (Nat.zero_le _)) e6 hug, ?_, e4, RootFrom.new (blk_set (blk_set e5 1 _) 2 v6) rfl (fun g hg => Nat.le_trans e3.size (hO.lt g hg).1)⟩
      · exact e1'.keep (fun i hi => (Below.heap_setCell _ _ _ _ (fun e => e6 (by have e2 : i = y := e; rw [← e2]; exact hi))).trans (Below.heap_setCell _ _ _ _ (fun e => e6 (by have e2 : i = y := e; rw [← e2]; exact hi))))
      · exact ((e3.trans (Below.frame_ (fs := fun i => gs i ∨ i = y) hB6) (fun i hi => .inl hi)).setCell (.inl (.inr rfl)) _).setCell (.inl (.inr rfl)) _))
    have HDR := Lib.hid (fun w1 w5 {D2 : RS} (hE : EffR w1 y x gs D2 T r false w5) => (show EffR w1 y x gs D2 T r false w5.drew by
      obtain ⟨gs1, e1, e2, e3, e4, e9⟩ := hE
      obtain ⟨v7, e5, e6, e7, e8⟩ := e2
      exact ⟨gs1, e1.drew_, ⟨v7, e5, e6, e7, e8⟩, e3.drew, e4, e9⟩))
    have HPL := Lib.hid hpk.1
    have HS12 := Lib.hid (And.intro s1 (s2.more (Nat.le_add_right m 4)))
    have HT12 := Lib.hid (And.intro t1 t2)
    have HZ12 := Lib.hid (And.intro z1 z2)
    unfold RPackEnds at HPK
    rw [hq0] at HPK
    have hsto : storeV (syncV D).2 (nxT T % 2) (packV 1 (nxT T % 2) (nxT T) xs).1 = stoV (syncV D).2 (nxT T % 2) (packV 1 (nxT T % 2) (nxT T) xs).1 4 := rfl
    rw [hsto]
    clear hsto hd h hr hx hq hA s1 s2 t1 t2 z1 z2 hpk hm hTr
    generalize (packV 1 (nxT T % 2) (nxT T) xs) = pk at *
    generalize stoV (syncV D).2 (nxT T % 2) pk.1 4 = sto at *
    generalize rstoR (syncR R).2 (nxT T % 2) pk.1 4 = rto at *
    generalize syncV sto.2 = sz at *
    generalize syncR rto.2 = rz at *
    generalize syncV D = sy at *
    generalize syncR R = ry at *
    obtain ⟨sy1, sy2⟩ := sy
    obtain ⟨ry1, ry2⟩ := ry
    obtain ⟨sto1, sto2⟩ := sto
    obtain ⟨rto1, rto2⟩ := rto
    obtain ⟨sz1, sz2⟩ := sz
    obtain ⟨rz1, rz2⟩ := rz
    simp only at HS12 HT12 HZ12 HSY HSTO HSZ ⊢
    obtain rfl := HS12.out.1
    obtain rfl := HT12.out.1
    obtain rfl := HZ12.out.1
    by_cases c1 : ry1 ≠ 0
    · simp only [if_pos c1]
      have c1b : (ry1 != 0) = true := bne_iff_ne.mpr c1
      have c1c : (ry1 == 0) = false := beq_eq_false_iff_ne.mpr c1
      go_enter Try.func25, Try.ntmps25
      go_wp2_with (first
        | (go_at_call 11; ((with_reducible refine HPK.out.mono ?_); rintro e w1 ⟨v1, rfl, hO1, hB1⟩; obtain ⟨g, c', rfl, hc', hg, hgl, hrd⟩ := row1024 hO1 HPL.out; have HB1 := Lib.hid hB1; have HPU1 := Lib.hid (And.intro hrd (And.intro hc' (And.intro (HGG.out g hg).1 (And.intro (HGG.out g hg).2 hgl)))); have HE1 := Lib.hid (HEB.out w1 hB1); obtain ⟨f0, _, _⟩ := HE1.out.at_; have HS1 := Lib.hid (HSY.out w1 _ HE1.out); clear hO1 hB1 hc' hg hgl hrd))
        | (go_at_call 50; ((with_reducible refine HS1.out.mono ?_); rintro e w3 ⟨rfl, hE3⟩; have HE3 := Lib.hid hE3; obtain ⟨m0, m1, ⟨v3, hb3⟩, _⟩ := hE3.at_; have m3 := blk_frozen hb3 3; have m4 : w3.cell? ⟨y, 3, none⟩ = some (.bool false) := (blk_cell hb3 3).trans rfl; clear hE3 hb3)))
      go_ret
      exact ⟨rfl, ry2, HS12.out.2, HJ.out _ _ _ _ _ _ HB1.out (HE3.out.set3 true)⟩
    simp only [if_neg c1]
    have c10 : ry1 = 0 := by simpa using c1
    subst c10
    by_cases c2 : rto1 ≠ 0
    · simp only [if_pos c2]
      have c2b : (rto1 != 0) = true := bne_iff_ne.mpr c2
      have c2c : (rto1 == 0) = false := beq_eq_false_iff_ne.mpr c2
      go_enter Try.func25, Try.ntmps25
      go_wp2_with (first
        | (go_at_call 11; ((with_reducible refine HPK.out.mono ?_); rintro e w1 ⟨v1, rfl, hO1, hB1⟩; obtain ⟨g, c', rfl, hc', hg, hgl, hrd⟩ := row1024 hO1 HPL.out; have HB1 := Lib.hid hB1; have HPU1 := Lib.hid (And.intro hrd (And.intro hc' (And.intro (HGG.out g hg).1 (And.intro (HGG.out g hg).2 hgl)))); have HE1 := Lib.hid (HEB.out w1 hB1); obtain ⟨f0, _, _⟩ := HE1.out.at_; have HS1 := Lib.hid (HSY.out w1 _ HE1.out); clear hO1 hB1 hc' hg hgl hrd))
        | (go_at_call 50; ((with_reducible refine HS1.out.mono ?_); rintro e w3 ⟨rfl, hE3⟩; have HE3 := Lib.hid hE3; obtain ⟨m0, _, _⟩ := hE3.at_; have HS3 := Lib.hid (HSTO.out w1 _ g c' hE3 HPU1.out.1 HPU1.out.2.1 HPU1.out.2.2.1 HPU1.out.2.2.2.1 HPU1.out.2.2.2.2); clear hE3))
        | (go_at_call 49; ((with_reducible refine HS3.out.mono ?_); rintro e w4 ⟨rfl, hE4⟩; have HE4 := Lib.hid hE4; obtain ⟨n0, n1, ⟨v4, hb4⟩, _⟩ := hE4.at_; have n3 := blk_frozen hb4 3; have n4 : w4.cell? ⟨y, 3, none⟩ = some (.bool false) := (blk_cell hb4 3).trans rfl; have HS4 := Lib.hid (HSZ.out w1 _ hE4); clear hE4 hb4)))
      go_ret
      exact ⟨rfl, rto2, HT12.out.2, HJ.out _ _ _ _ _ _ HB1.out (HE4.out.set3 true)⟩
    simp only [if_neg c2]
    have c20 : rto1 = 0 := by simpa using c2
    subst c20
    by_cases c3 : rz1 ≠ 0
    · simp only [if_pos c3]
      have c3b : (rz1 != 0) = true := bne_iff_ne.mpr c3
      have c3c : (rz1 == 0) = false := beq_eq_false_iff_ne.mpr c3
      go_enter Try.func25, Try.ntmps25
      go_wp2_with (first
        | (go_at_call 11; ((with_reducible refine HPK.out.mono ?_); rintro e w1 ⟨v1, rfl, hO1, hB1⟩; obtain ⟨g, c', rfl, hc', hg, hgl, hrd⟩ := row1024 hO1 HPL.out; have HB1 := Lib.hid hB1; have HPU1 := Lib.hid (And.intro hrd (And.intro hc' (And.intro (HGG.out g hg).1 (And.intro (HGG.out g hg).2 hgl)))); have HE1 := Lib.hid (HEB.out w1 hB1); obtain ⟨f0, _, _⟩ := HE1.out.at_; have HS1 := Lib.hid (HSY.out w1 _ HE1.out); clear hO1 hB1 hc' hg hgl hrd))
        | (go_at_call 50; ((with_reducible refine HS1.out.mono ?_); rintro e w3 ⟨rfl, hE3⟩; have HE3 := Lib.hid hE3; obtain ⟨m0, _, _⟩ := hE3.at_; have HS3 := Lib.hid (HSTO.out w1 _ g c' hE3 HPU1.out.1 HPU1.out.2.1 HPU1.out.2.2.1 HPU1.out.2.2.2.1 HPU1.out.2.2.2.2); clear hE3))
        | (go_at_call 49; ((with_reducible refine HS3.out.mono ?_); rintro e w4 ⟨rfl, hE4⟩; have HE4 := Lib.hid hE4; obtain ⟨n0, n1, ⟨v4, hb4⟩, _⟩ := hE4.at_; have n3 := blk_frozen hb4 3; have n4 : w4.cell? ⟨y, 3, none⟩ = some (.bool false) := (blk_cell hb4 3).trans rfl; have HS4 := Lib.hid (HSZ.out w1 _ hE4); clear hE4 hb4))
        | (go_at_call 50; ((with_reducible refine HS4.out.mono ?_); rintro e w5 ⟨rfl, hE5⟩; have HE5 := Lib.hid hE5; obtain ⟨q0, q1, ⟨v5, hb5⟩, _⟩ := hE5.at_; have q3 := blk_frozen hb5 3; have q4 : w5.cell? ⟨y, 3, none⟩ = some (.bool false) := (blk_cell hb5 3).trans rfl; clear hE5)))
      go_ret
      exact ⟨rfl, rz2, HZ12.out.2, HJ.out _ _ _ _ _ _ HB1.out (HE5.out.set3 true)⟩
    simp only [if_neg c3]
    have c30 : rz1 = 0 := by simpa using c3
    subst c30
    go_enter Try.func25, Try.ntmps25
    go_wp2_with (first
      | (go_at_call 11; ((with_reducible refine HPK.out.mono ?_); rintro e w1 ⟨v1, rfl, hO1, hB1⟩; obtain ⟨g, c', rfl, hc', hg, hgl, hrd⟩ := row1024 hO1 HPL.out; have HB1 := Lib.hid hB1; have HPU1 := Lib.hid (And.intro hrd (And.intro hc' (And.intro (HGG.out g hg).1 (And.intro (HGG.out g hg).2 hgl)))); have HE1 := Lib.hid (HEB.out w1 hB1); obtain ⟨f0, _, _⟩ := HE1.out.at_; have HS1 := Lib.hid (HSY.out w1 _ HE1.out); clear hO1 hB1 hc' hg hgl hrd))
      | (go_at_call 50; ((with_reducible refine HS1.out.mono ?_); rintro e w3 ⟨rfl, hE3⟩; have HE3 := Lib.hid hE3; obtain ⟨m0, _, _⟩ := hE3.at_; have HS3 := Lib.hid (HSTO.out w1 _ g c' hE3 HPU1.out.1 HPU1.out.2.1 HPU1.out.2.2.1 HPU1.out.2.2.2.1 HPU1.out.2.2.2.2); clear hE3))
      | (go_at_call 49; ((with_reducible refine HS3.out.mono ?_); rintro e w4 ⟨rfl, hE4⟩; have HE4 := Lib.hid hE4; obtain ⟨n0, n1, ⟨v4, hb4⟩, _⟩ := hE4.at_; have n3 := blk_frozen hb4 3; have n4 : w4.cell? ⟨y, 3, none⟩ = some (.bool false) := (blk_cell hb4 3).trans rfl; have HS4 := Lib.hid (HSZ.out w1 _ hE4); clear hE4 hb4))
      | (go_at_call 50; ((with_reducible refine HS4.out.mono ?_); rintro e w5 ⟨rfl, hE5⟩; have HE5 := Lib.hid hE5; obtain ⟨q0, q1, ⟨v5, hb5⟩, _⟩ := hE5.at_; have q3 := blk_frozen hb5 3; have q4 : w5.cell? ⟨y, 3, none⟩ = some (.bool false) := (blk_cell hb5 3).trans rfl; clear hE5)))
    have HED := Lib.hid (HDR.out w1 w5 HE5.out)
    -- W15
    refine start_ (n := 15) (S := fun w' => w'.cell? ⟨y, 1, none⟩ = some (.int .u64 T)) (ds := [11, 14]) #[false, false, false, false, false, false, false, false, false, false, false, false, false, false, false] (by kernel_rfl) rfl rfl (q1) (fun hHeld => ?_)
    refine pure_ (i := 0) (N := some 57) (v := ?_) (a' := ?_) #[true, false, false, false, false, false, false, false, false, false, false, false, false, false, false] rfl rfl (by kernel_rfl) (fun _ _ _ h => h) (Or.inl ⟨by rfl, ?_⟩) ?_ ?_
    rotate_left
    · intro w'
      go_simp
      with_reducible rfl
    rotate_left
    · simp only [Act.put, List.setIfInBounds_toArray, List.set_cons_zero, List.set_cons_succ, i64_w, i32_w]
      rfl
    refine pure_ (i := 1) (N := some 58) (v := ?_) (a' := ?_) #[true, true, false, false, false, false, false, false, false, false, false, false, false, false, false] rfl rfl (by kernel_rfl) (fun _ _ _ h => h) (Or.inl ⟨by rfl, ?_⟩) ?_ ?_
    rotate_left
    · intro w'
      go_simp
      with_reducible rfl
    rotate_left
    · simp only [Act.put, List.setIfInBounds_toArray, List.set_cons_zero, List.set_cons_succ, i64_w, i32_w]
      rfl
    refine pure_ (i := 2) (N := some 59) (v := ?_) (a' := ?_) #[true, true, true, false, false, false, false, false, false, false, false, false, false, false, false] rfl rfl (by kernel_rfl) (fun _ _ _ h => h) (Or.inl ⟨by rfl, ?_⟩) ?_ ?_
    rotate_left
    · intro w'
      go_simp
      with_reducible rfl
    rotate_left
    · simp only [Act.put, List.setIfInBounds_toArray, List.set_cons_zero, List.set_cons_succ, i64_w, i32_w]
      rfl
    refine pure_ (i := 3) (N := some 60) (v := ?_) (a' := ?_) #[true, true, true, true, false, false, false, false, false, false, false, false, false, false, false] rfl rfl (by kernel_rfl) (fun _ _ _ h => h) (Or.inl ⟨by rfl, ?_⟩) ?_ ?_
    rotate_left
    · intro w'
      go_simp
      with_reducible rfl
    rotate_left
    · simp only [Act.put, List.setIfInBounds_toArray, List.set_cons_zero, List.set_cons_succ, i64_w, i32_w]
      rfl
    refine pure_ (i := 4) (N := some 61) (v := ?_) (a' := ?_) #[true, true, true, true, true, false, false, false, false, false, false, false, false, false, false] rfl rfl (by kernel_rfl) (fun _ _ _ h => h) (Or.inl ⟨by rfl, ?_⟩) ?_ ?_
    rotate_left
    · intro w'
      go_simp
      with_reducible rfl
    rotate_left
    · simp only [Act.put, List.setIfInBounds_toArray, List.set_cons_zero, List.set_cons_succ, i64_w, i32_w]
      rfl
    refine pure_ (i := 7) (N := some 64) (v := ?_) (a' := ?_) #[true, true, true, true, true, false, false, true, false, false, false, false, false, false, false] rfl rfl (by kernel_rfl) (fun _ _ _ h => h) (Or.inl ⟨by rfl, ?_⟩) ?_ ?_
    rotate_left
    · intro w'
      go_simp
      with_reducible rfl
    rotate_left
    · simp only [Act.put, List.setIfInBounds_toArray, List.set_cons_zero, List.set_cons_succ, i64_w, i32_w]
      rfl
    refine take_ (i := 5) (N := some 62) (v := ?_) (a' := ?_) #[true, true, true, true, true, true, false, true, false, false, false, false, false, false, false] rfl rfl (by kernel_rfl) (fun _ _ _ h => h) (Or.inl ⟨by rfl, ?_⟩) hHeld ?_ ?_
    rotate_left
    · intro w' s0
      go_simp
      with_reducible rfl
    rotate_left
    · simp only [Act.put, List.setIfInBounds_toArray, List.set_cons_zero, List.set_cons_succ, i64_w, i32_w]
      rfl
    refine pure_ (i := 6) (N := some 63) (v := ?_) (a' := ?_) #[true, true, true, true, true, true, true, true, false, false, false, false, false, false, false] rfl rfl (by kernel_rfl) (fun _ _ _ h => h) (Or.inl ⟨by rfl, ?_⟩) ?_ ?_
    rotate_left
    · intro w'
      go_simp
      with_reducible rfl
    rotate_left
    · simp only [Act.put, List.setIfInBounds_toArray, List.set_cons_zero, List.set_cons_succ, i64_w, i32_w]
      rfl
    refine one_ (i := 8) (N := some 65) #[true, true, true, true, true, true, true, true, true, false, false, false, false, false, false] rfl rfl (by kernel_rfl) (by decide) (fun K hK => ?_)
    refine goes_ Try.func35 (by kernel_rfl) rfl #[.slice A xs.length c] (by rfl) rfl rfl (by simp only [List.map_toArray, List.map_cons, List.map_nil] <;> rfl) ?_
    with_reducible refine (HCL.out w1 w5.drew HB1.out HED.out).mono ?_
    rintro e w6 ⟨v6, rfl, hO, hB⟩
    refine ⟨_, rfl, ?_⟩
    have HF6 := Lib.hid (HFIN.out w1 w5.drew w6 v6 HB1.out HED.out hO hB)
    have b6 : w6.heap[y]? = some (.cells #[.pointer (some ⟨x, 0, none⟩), .int .u64 T, v5, .bool false] 65 (0, 0)) := blk_below (w := w5.drew) hb5 hB
    have p1 : w6.cell? ⟨y, 1, none⟩ = some (.int .u64 T) := (blk_cell b6 1).trans rfl
    have p2 := blk_frozen b6 1
    have p3 : w6.cell? ⟨y, 2, none⟩ = some v5 := (blk_cell b6 2).trans rfl
    have p4 := blk_frozen b6 2
    obtain ⟨A6, c6, rfl, _, _⟩ := hO.reads
    clear hO hB
    refine hK.out _ _ (p1) (fun hHeld => ?_)
    clear hK K
    refine norm_ (a' := ?_) ?_ ?_
    rotate_left
    · show Act.put _ (some 65) _ = _
      simp only [Act.put, List.setIfInBounds_toArray, List.set_cons_zero, List.set_cons_succ, i64_w, i32_w]
      rfl
    refine pure_ (i := 9) (N := some 66) (v := ?_) (a' := ?_) #[true, true, true, true, true, true, true, true, true, true, false, false, false, false, false] rfl rfl (by kernel_rfl) (fun _ _ _ h => h) (Or.inl ⟨by rfl, ?_⟩) ?_ ?_
    rotate_left
    · intro w'
      go_simp
      with_reducible rfl
    rotate_left
    · simp only [Act.put, List.setIfInBounds_toArray, List.set_cons_zero, List.set_cons_succ, i64_w, i32_w]
      rfl
    refine pure_ (i := 10) (N := some 67) (v := ?_) (a' := ?_) #[true, true, true, true, true, true, true, true, true, true, true, false, false, false, false] rfl rfl (by kernel_rfl) (fun _ _ _ h => h) (Or.inl ⟨by rfl, ?_⟩) ?_ ?_
    rotate_left
    · intro w'
      go_simp
      with_reducible rfl
    rotate_left
    · simp only [Act.put, List.setIfInBounds_toArray, List.set_cons_zero, List.set_cons_succ, i64_w, i32_w]
      rfl
    refine last_ (i := 11) (N := none) #[true, true, true, true, true, true, true, true, true, true, true, true, false, false, false] rfl rfl (by kernel_rfl) (by decide) (fun K hK => ?_)
    refine skip_ (w1 := ?_) (by rfl) rfl ?_ ?_
    rotate_left
    · go_simp
      rfl
    refine hK.out _ _ ?_
    clear hK K
    refine pure_ (i := 12) (N := some 68) (v := ?_) (a' := ?_) #[true, true, true, true, true, true, true, true, true, true, true, true, true, false, false] rfl rfl (by kernel_rfl) (fun _ _ _ h => h) (Or.inl ⟨by rfl, ?_⟩) ?_ ?_
    rotate_left
    · intro w'
      go_simp
      with_reducible rfl
    rotate_left
    · simp only [Act.put, List.setIfInBounds_toArray, List.set_cons_zero, List.set_cons_succ, i64_w, i32_w]
      rfl
    refine pure_ (i := 13) (N := some 69) (v := ?_) (a' := ?_) #[true, true, true, true, true, true, true, true, true, true, true, true, true, true, false] rfl rfl (by kernel_rfl) (fun _ _ _ h => h) (Or.inl ⟨by rfl, ?_⟩) ?_ ?_
    rotate_left
    · intro w'
      go_simp
      with_reducible rfl
    rotate_left
    · simp only [Act.put, List.setIfInBounds_toArray, List.set_cons_zero, List.set_cons_succ, i64_w, i32_w]
      rfl
    refine last_ (i := 14) (N := none) #[true, true, true, true, true, true, true, true, true, true, true, true, true, true, true] rfl rfl (by kernel_rfl) (by decide) (fun K hK => ?_)
    refine skip_ (w1 := ?_) (by rfl) rfl ?_ ?_
    rotate_left
    · go_simp
      rfl
    refine hK.out _ _ ?_
    clear hK K
    refine done_ (by kernel_rfl) ?_
    -- ENDW15
    go_wp2
    go_ret
    exact ⟨rfl, rz2, HZ12.out.2, HF6.out⟩
end Go.Proofs.Ytlmdghafiadgjaa
