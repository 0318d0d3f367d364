/- The document's pages: Read, Write, walked. -/
import Derived.Test.YtlmdghafiadgjaaPgR7
namespace Go.Proofs.Ytlmdghafiadgjaa
set_option maxRecDepth 100000
set_option linter.unusedVariables false
set_option linter.unusedSimpArgs false
open Go.RowKit Go.Proofs.YtlmdghafiadgjaaW.PrintWords Go.Proofs.YtlmdghafiadgjaaW.PrintLast

theorem RefAt.size_ {w : World} {x : Nat} {R : RS} {gs : Nat → Prop} (h : RefAt w x R gs) {D : DS} (hr : Rel D R) : w.cell? ⟨x, 0, none⟩ = some (.int .i64 D.size) := by
  obtain ⟨vs, vp, es, ep, hv, _⟩ := h
  rw [← hr.size]
  exact (blk_cell hv.blk 0).trans rfl
theorem row1024 {w : World} {base : Nat} {v : Value} {xs : List Int} (h : ORow .u8 5 w base v xs) (hl : xs.length = 1024) : ∃ g c, v = .slice (some ⟨g, 0, none⟩) 1024 c ∧ 1024 ≤ c ∧ base ≤ g ∧ g < w.heap.size ∧ ReadsInt w .u8 (some ⟨g, 0, none⟩) 1024 xs := by
  obtain ⟨g, cap, hv, hc⟩ := own_form h (by omega)
  subst hv
  have hrd := own_rd h
  have hlt := h.lt g rfl
  rw [hl] at hrd hc ⊢
  exact ⟨g, cap, rfl, hc, hlt.1, hlt.2, hrd⟩
set_option maxHeartbeats 2000000 in
theorem rread_bad (y x : Nat) (D : DS) (n : Int) (w : World) (h0 : w.cell? ⟨y, 0, none⟩ = some (.pointer (some ⟨x, 0, none⟩))) (c0 : w.cell? ⟨x, 0, none⟩ = some (.int .i64 D.size)) (hp : 0 < D.size) (hm : D.size ≤ 65536) (hz : n < 2 ∨ (2 ≤ n ∧ D.size / 4 ≤ n)) :
    Calls Try.prog 30 #[.pointer (some ⟨y, 0, none⟩), .int .i64 n] w fun e w' => e = .returned (.tuple #[.int .u8 0, .slice none 0 0, .int .i64 1]) ∧ w = w' := by
  have hq : D.size.tdiv 4 = D.size / 4 := Int.tdiv_eq_ediv_of_nonneg (by omega)
  have hwq : wrap64 (D.size / 4) = D.size / 4 := wrap64_id _ (by omega) (by omega)
  rcases hz with hz | ⟨hz, hz2⟩
  all_goals
    go_enter Try.func30, Try.ntmps30
    go_wp2
    (try simp only [Exit.inBlock, Exit.then])
    refine bodyPost_ret (results_tmp3 rfl _ _ _) rfl ?_
    exact ⟨rfl, rfl⟩
set_option maxHeartbeats 2000000 in
theorem rread_yes (y x : Nat) (D : DS) (R : RS) (T : Int) (r : List Int) (B : Bool) (gs : Nat → Prop) (n : Int) (w : World) (h : RStoreAt w y x T r B gs) (hd : RefAt w x R gs) (hrel : Rel D R) (ho : D.Ok) :
    Calls Try.prog 30 #[.pointer (some ⟨y, 0, none⟩), .int .i64 n] w fun e w' => ∃ v, e = .returned (.tuple #[.int .u8 (readPV D n).1, v, .int .i64 (readPV D n).2.2]) ∧ ORow .u8 5 w' w.heap.size v (readPV D n).2.1 ∧ Below w.heap.size w w' := by
  obtain ⟨h0, h1, h3⟩ := h.cells
  have c0 := hd.size_ hrel
  have hp := ho.pos
  have hm := ho.max
  by_cases hz : n < 2 ∨ (2 ≤ n ∧ D.size / 4 ≤ n)
  · have e : readPV D n = (0, [], 1) := by
      have e2 : dataV (D.size / 4) n = 1 := by unfold dataV; rw [if_pos (by omega)]
      unfold readPV
      rw [e2, if_pos (by decide)]
    rw [e]
    refine (rread_bad y x D n w h0 c0 hp hm hz).mono ?_
    rintro e w1 ⟨rfl, rfl⟩
    exact ⟨_, rfl, ORow.nil _ _ _ _, Below.refl _ _⟩
  · have e2 : dataV (D.size / 4) n = 0 := by unfold dataV; rw [if_neg (by omega)]
    have e : readPV D n = ((unpackV (loadV D n) n).1, (unpackV (loadV D n) n).2.2.1, (unpackV (loadV D n) n).2.2.2) := by
      unfold readPV
      rw [e2, if_neg (by decide)]
    rw [e]
    have hq : D.size.tdiv 4 = D.size / 4 := Int.tdiv_eq_ediv_of_nonneg (by omega)
    have hwq : wrap64 (D.size / 4) = D.size / 4 := wrap64_id _ (by omega) (by omega)
    have hn1 : ¬ n < 2 := by omega
    have hn2 : ¬ D.size / 4 ≤ n := by omega
    have HL := Lib.hid (by have h := rload_any hd n (by omega) (by omega); rw [hrel.load n (by omega) (by omega)] at h; exact h)
    have HLB := Lib.hid (loadK_bytes D ho n 4)
    have HU := Lib.hid (fun A c W (hr : ReadsInt W .u8 A (loadV D n).length (loadV D n)) (hc : (loadV D n).length ≤ c) => runpack_any A (loadV D n).length c (loadV D n) n W hr HLB.out hc)
    clear hd h ho hrel hz e e2
    generalize unpackV (loadV D n) n = uv at *
    generalize (loadV D n) = lv at *
    go_enter Try.func30, Try.ntmps30
    go_wp2_with (first
      | (go_at_call 48; ((with_reducible refine HL.out.mono ?_); rintro e w1 ⟨v1, rfl, hO1, hB1⟩; obtain ⟨A1, c1, rfl, hc1, hr1⟩ := hO1.reads; have HB1 := Lib.hid hB1; have HU1 := Lib.hid (HU.out A1 c1 w1 hr1 hc1); clear hO1 hB1 hr1))
      | (go_at_call 13; ((with_reducible refine HU1.out.mono ?_); rintro e w2 ⟨v2, rfl, hO2, hB2⟩; have HO2 := Lib.hid (hO2.lower HB1.out.size); have HB2 := Lib.hid (below_then HB1.out HB1.out.size hB2); clear hO2 hB2)))
    (try simp only [Exit.inBlock, Exit.then])
    refine bodyPost_ret (results_tmp3 rfl _ _ _) rfl ?_
    exact ⟨_, rfl, HO2.out, HB2.out⟩
theorem EffR.sync_ {w w1 : World} {y x : Nat} {gs : Nat → Prop} {R : RS} {T : Int} {r : List Int} {B : Bool} (h : EffR w y x gs R T r B w1) (ha : R.after ≤ 9223372036854775807) (hp : R.sure.length + R.pend.length ≤ 1000000000) :
    Calls Try.prog 50 #[.pointer (some ⟨x, 0, none⟩)] w1 fun e w' => e = .returned (.int .i64 (syncR R).1) ∧ EffR w y x gs (syncR R).2 T r B w' := by
  obtain ⟨gs1, h1, h2, h3, h4, h5⟩ := h
  refine (rsync_any h1 ha hp).mono ?_
  rintro e w2 ⟨rfl, hE⟩
  exact ⟨rfl, EffR.join h3 h4 h5 (EffR.of h2 hE)⟩
theorem EffR.put_ {w w1 : World} {y x : Nat} {gs : Nat → Prop} {R : RS} {T : Int} {r : List Int} {B : Bool} (h : EffR w y x gs R T r B w1) (n : Int) (g c : Nat) (xs : List Int) (hn : 0 ≤ n) (hn2 : n ≤ 20000) (ha : R.after ≤ 9223372036854775807) (hp : R.pend.length ≤ 999999000)
    (hr : ReadsInt w .u8 (some ⟨g, 0, none⟩) 1024 xs) (hx : Bytes xs) (hc : 1024 ≤ c) (hg : ¬ gs g) (hgy : g ≠ y) (hgl : g < w.heap.size) :
    Calls Try.prog 49 #[.pointer (some ⟨y, 0, none⟩), .int .i64 n, .slice (some ⟨g, 0, none⟩) 1024 c] w1 fun e w' => e = .returned (.int .i64 (rstoR R n xs 4).1) ∧ EffR w y x gs (rstoR R n xs 4).2 T r B w' := by
  obtain ⟨gs1, h1, h2, h3, h4, h5⟩ := h
  have hr1 := reads_frame hr h3 (fun ad e => by cases e; exact fun h => h.elim hg hgy)
  refine (rput_any y x R gs1 n g 0 c xs w1 h1 h2.cells.1 (by obtain ⟨_, _, _, h9, _⟩ := h2; exact h9) h2.lt hn hn2 ha hp hr1 hx hc (fun e => (h4 g e).elim hg (fun h => by omega)) (Nat.lt_of_lt_of_le hgl h3.size)).mono ?_
  rintro e w2 ⟨rfl, hE⟩
  exact ⟨rfl, EffR.join h3 h4 h5 (EffR.of h2 hE)⟩
end Go.Proofs.Ytlmdghafiadgjaa
