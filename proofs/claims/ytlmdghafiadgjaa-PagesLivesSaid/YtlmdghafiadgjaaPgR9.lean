/- The document's pages: Write, walked. -/
import Derived.Test.YtlmdghafiadgjaaPgR8
namespace Go.Proofs.Ytlmdghafiadgjaa
set_option maxRecDepth 100000
set_option linter.unusedVariables false
set_option linter.unusedSimpArgs false
open Go.RowKit Go.Proofs.YtlmdghafiadgjaaW.PrintWords Go.Proofs.YtlmdghafiadgjaaW.PrintLast

set_option maxHeartbeats 2000000 in
theorem rwrite_out (y x : Nat) (D : DS) (n k : Int) (A : Option Addr) (m c : Nat) (w : World) (h0 : w.cell? ⟨y, 0, none⟩ = some (.pointer (some ⟨x, 0, none⟩))) (c0 : w.cell? ⟨x, 0, none⟩ = some (.int .i64 D.size)) (hp : 0 < D.size) (hm : D.size ≤ 65536) (hz : n < 2 ∨ (2 ≤ n ∧ D.size / 4 ≤ n)) :
    Calls Try.prog 24 #[.pointer (some ⟨y, 0, none⟩), .int .i64 n, .int .u8 k, .slice A m c] w fun e w' => e = .returned (.int .i64 1) ∧ w = w' := by
  have hq : D.size.tdiv 4 = D.size / 4 := Int.tdiv_eq_ediv_of_nonneg (by omega)
  have hwq : wrap64 (D.size / 4) = D.size / 4 := wrap64_id _ (by omega) (by omega)
  rcases hz with hz | ⟨hz, hz2⟩
  all_goals
    go_enter Try.func24, Try.ntmps24
    go_wp2
    go_ret
    exact ⟨rfl, rfl⟩
set_option maxHeartbeats 4000000 in
theorem rswrite_yes (y x : Nat) (D : DS) (R : RS) (T : Int) (r : List Int) (B : Bool) (gs : Nat → Prop) (m : Nat) (n k : Int) (A : Option Addr) (c : Nat) (xs : List Int) (w : World) (h : RStoreAt w y x T r B gs) (hd : RefAt w x R gs) (hm : RM D R m) (ho : D.Ok)
    (hr : ReadsInt w .u8 A xs.length xs) (hx : Bytes xs) (hk0 : 0 ≤ k) (hk1 : k ≤ 255) (hmm : m ≤ 900000000) :
    Calls Try.prog 24 #[.pointer (some ⟨y, 0, none⟩), .int .i64 n, .int .u8 k, .slice A xs.length c] w fun e w' => e = .returned (.int .i64 (swriteV D T B n k xs).1) ∧ ∃ R', RM (swriteV D T B n k xs).2.1 R' (m + 4) ∧ EffR w y x gs R' T r (swriteV D T B n k xs).2.2 w' := by
  obtain ⟨h0, h1, h3⟩ := h.cells
  have c0 := hd.size_ hm.rel
  have hp := ho.pos
  have hmx := ho.max
  have HEr := Lib.hid (EffR.refl hd h)
  have HM0 := Lib.hid (hm.more (Nat.le_add_right m 4))
  by_cases hz : n < 2 ∨ (2 ≤ n ∧ D.size / 4 ≤ n)
  · have e2 : dataV (D.size / 4) n = 1 := by unfold dataV; rw [if_pos (by omega)]
    have e : swriteV D T B n k xs = (1, D, B) := by
      unfold swriteV
      rw [e2, if_pos (by decide)]
    rw [e]
    refine (rwrite_out y x D n k A _ c w h0 c0 hp hmx hz).mono ?_
    rintro e w1 ⟨rfl, rfl⟩
    exact ⟨rfl, R, HM0.out, HEr.out⟩
  have e2 : dataV (D.size / 4) n = 0 := by unfold dataV; rw [if_neg (by omega)]
  have hq : D.size.tdiv 4 = D.size / 4 := Int.tdiv_eq_ediv_of_nonneg (by omega)
  have hwq : wrap64 (D.size / 4) = D.size / 4 := wrap64_id _ (by omega) (by omega)
  have hn1 : ¬ n < 2 := by omega
  have hn2 : ¬ D.size / 4 ≤ n := by omega
  unfold swriteV
  rw [e2, if_neg (by decide)]
  cases B with
  | true =>
    simp only [if_true]
    clear hd h hr hz e2 hm
    go_enter Try.func24, Try.ntmps24
    go_wp2
    go_ret
    exact ⟨rfl, R, HM0.out, HEr.out⟩
  | false =>
    simp only [Bool.false_eq_true, if_false]
    have HPK := Lib.hid (rpack_any k n (nxT T) A c xs w hr hx ⟨hk0, hk1⟩ (nxT_range T))
    have HEB := Lib.hid (fun w1 hB => EffR.below (w' := w1) hd h hB)
    have hT : IntKind.u64.wrap (T + 1) = nxT T := nxT_w T
    by_cases hqq : (packV k n (nxT T) xs).2 ≠ 0
    · simp only [if_pos hqq]
      have hqb : ((packV k n (nxT T) xs).2 != 0) = true := bne_iff_ne.mpr hqq
      clear hd h hr hz hx hm e2
      generalize (packV k n (nxT T) xs) = pk at *
      go_enter Try.func24, Try.ntmps24
      go_wp2_with (first
        | (go_at_call 11; ((with_reducible refine HPK.out.mono ?_); rintro e w1 ⟨v1, rfl, hO1, hB1⟩; have HB1 := Lib.hid hB1; clear hO1 hB1)))
      go_ret
      exact ⟨rfl, R, HM0.out, HEB.out _ HB1.out⟩
    · simp only [if_neg hqq]
      have hq0 : (packV k n (nxT T) xs).2 = 0 := by simpa using hqq
      have hpk : (packV k n (nxT T) xs).1.length = 1024 ∧ Bytes (packV k n (nxT T) xs).1 := by
        unfold packV at hq0 ⊢
        split at hq0
        · cases hq0
        · rename_i g1
          split at hq0
          · cases hq0
          · rename_i g2
            rw [if_neg g1, if_neg g2]
            exact ⟨packL_len (by omega), packL_bytes ⟨hk0, hk1⟩ hx⟩
      have hst := hm.sto n (packV k n (nxT T) xs).1 4
      have hkp := rstoR_keeps R n (packV k n (nxT T) xs).1 4
      have HGG := Lib.hid (fun g (hg : w.heap.size ≤ g) => (show ¬ gs g ∧ g ≠ y from ⟨fun e => by have := hd.lt g e; omega, fun e => by have := h.lt; omega⟩))
      have HPU := Lib.hid (fun g c' w1 (hB : Below w.heap.size w w1) (hg : w.heap.size ≤ g) (hgl : g < w1.heap.size) (hc' : 1024 ≤ c') (hR : ReadsInt w1 .u8 (some ⟨g, 0, none⟩) 1024 (packV k n (nxT T) xs).1) =>
        EffR.put_ (EffR.refl (hd.below hB) (h.below hB)) n g c' (packV k n (nxT T) xs).1 (by omega) (by omega) hm.r (by have := hm.n; omega) hR hpk.2 hc' (HGG.out g hg).1 (HGG.out g hg).2 hgl)
      have HJ := Lib.hid (fun w1 w2 R2 T2 r2 B2 (hB : Below w.heap.size w w1) (hE : EffR w1 y x gs R2 T2 r2 B2 w2) => EffR.join (w := w) (gs := gs) (Below.frame_ hB) (fun _ h => .inl h) (RootFrom.same (hB.block y h.lt)) hE)
      have HPL := Lib.hid hpk.1
      unfold RPackEnds at HPK
      rw [hq0] at HPK
      have HSV : Hid ((rstoR R n (packV k n (nxT T) xs).1 4).1 = (storeV D n (packV k n (nxT T) xs).1).1 ∧ RM (storeV D n (packV k n (nxT T) xs).1).2 (rstoR R n (packV k n (nxT T) xs).1 4).2 (m + 4)) := Lib.hid hst
      clear hd h hr hz hx hqq hm hst hkp hpk e2
      generalize (packV k n (nxT T) xs) = pk at *
      generalize storeV D n pk.1 = sv at *
      generalize rstoR R n pk.1 4 = rv at *
      go_enter Try.func24, Try.ntmps24
      go_wp2_with (first
        | (go_at_call 11; ((with_reducible refine HPK.out.mono ?_); rintro e w1 ⟨v1, rfl, hO1, hB1⟩; obtain ⟨g, c', rfl, hc', hg, hgl, hrd⟩ := row1024 hO1 HPL.out; have HB1 := Lib.hid hB1; have HP1 := Lib.hid (HPU.out g c' w1 hB1 hg hgl hc' hrd); clear hO1 hB1 hc' hg hgl hrd))
        | (go_at_call 49; ((with_reducible refine HP1.out.mono ?_); rintro e w2 ⟨rfl, hE2⟩; have HE2 := Lib.hid hE2; obtain ⟨_, _, ⟨v2, hb2⟩, _⟩ := hE2.at_; have f3 := blk_frozen hb2 3; have e3 : w2.cell? ⟨y, 3, none⟩ = some (.bool false) := (blk_cell hb2 3).trans rfl; clear hE2 hb2)))
      go_ret
      exact ⟨by rw [← HSV.out.1]; rfl, rv.2, HSV.out.2, by rw [← HSV.out.1]; exact HJ.out _ _ _ _ _ _ HB1.out (HE2.out.set3 (rv.1 != 0))⟩
end Go.Proofs.Ytlmdghafiadgjaa
