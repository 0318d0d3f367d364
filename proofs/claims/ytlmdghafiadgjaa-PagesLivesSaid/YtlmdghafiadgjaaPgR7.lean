/- The document's pages: Open, walked (its loop is the program's own walk, turned by wip/sh/pgr7.py). -/
import Derived.Test.YtlmdghafiadgjaaPgR6
import Derived.Test.YtlmdghafiadgjaaPg12
namespace Go.Proofs.Ytlmdghafiadgjaa
set_option maxRecDepth 100000
set_option linter.unusedVariables false
set_option linter.unusedSimpArgs false
open Go.RowKit Go.Proofs.YtlmdghafiadgjaaW.PrintWords Go.Proofs.YtlmdghafiadgjaaW.PrintLast

theorem Rel.load {D : DS} {R : RS} (h : Rel D R) (n : Int) (h0 : 0 ≤ n) (h1 : n * 4 + 3 < D.size) : rloadV R n = loadV D n := by
  have e : ∀ i : Int, 0 ≤ i → i < D.size → nowR R i = readR D i := fun i g0 g1 => by
    unfold readR hasV
    rw [h.read, if_pos (by rw [if_pos ⟨g0, g1⟩])]
  unfold rloadV loadV rloadK rloadK rloadK rloadK rloadK loadK loadK loadK loadK loadK
  rw [Int.mul_comm 4 n, e _ (by omega) (by omega), e _ (by omega) (by omega), e _ (by omega) (by omega), e _ (by omega) (by omega)]
/-- What the document's Open makes, while it makes it. -/
def ROpAt (w wr : World) (b : Nat) (s : Int × List Int) : Prop :=
  ∃ v, wr.heap[w.heap.size]? = some (.cells #[.pointer (some ⟨b, 0, none⟩), .int .u64 s.1, v, .bool false] 65 (0, 0)) ∧ ORow .u8 5 wr (w.heap.size + 1) v s.2 ∧ Below w.heap.size w wr
theorem ROpAt.below {w wr w1 : World} {b : Nat} {s : Int × List Int} (h : ROpAt w wr b s) (hb : Below wr.heap.size wr w1) : ROpAt w w1 b s := by
  obtain ⟨v, h1, h2, h3⟩ := h
  exact ⟨v, (hb.block _ (blk_lt h1)).trans h1, h2.below hb, below_then h3 h3.size hb⟩
theorem ROpAt.cells {w wr : World} {b : Nat} {s : Int × List Int} (h : ROpAt w wr b s) : wr.cell? ⟨w.heap.size, 1, none⟩ = some (.int .u64 s.1) ∧ ∃ v, wr.heap[w.heap.size]? = some (.cells #[.pointer (some ⟨b, 0, none⟩), .int .u64 s.1, v, .bool false] 65 (0, 0)) := by
  obtain ⟨v, h1, h2, h3⟩ := h
  exact ⟨(blk_cell h1 1).trans rfl, v, h1⟩
theorem ROpAt.set_ {w wr : World} {b : Nat} {s : Int × List Int} (h : ROpAt w wr b s) {t : Int} {xs : List Int} {u : Value} (hu : ORow .u8 5 wr (w.heap.size + 1) u xs) :
    ROpAt w ((wr.setCell ⟨w.heap.size, 1, none⟩ (.int .u64 t)).setCell ⟨w.heap.size, 2, none⟩ u) b (t, xs) := by
  obtain ⟨v, h1, h2, h3⟩ := h
  have k1 := blk_set h1 1 (.int .u64 t)
  have k2 := blk_set k1 2 u
  have hne : ∀ g, u.ownBlock = some g → g ≠ w.heap.size := fun g hg e => by have := (hu.lt g hg).1; omega
  exact ⟨u, k2, own_keep hu (fun g hg => (Below.heap_setCell _ _ _ _ (hne g hg)).trans (Below.heap_setCell _ _ _ _ (hne g hg))), (h3.setCell (Nat.le_refl _) _).setCell (Nat.le_refl _) _⟩
theorem ROpAt.base {w wr : World} {b : Nat} {s : Int × List Int} (h : ROpAt w wr b s) : Below w.heap.size w wr := by
  obtain ⟨v, h1, h2, h3⟩ := h; exact h3
theorem ROpAt.lt_ {w wr : World} {b : Nat} {s : Int × List Int} (h : ROpAt w wr b s) : w.heap.size + 1 ≤ wr.heap.size := by
  obtain ⟨v, h1, h2, h3⟩ := h; exact blk_lt h1
theorem ROpAt.store {w wr : World} {b : Nat} {s : Int × List Int} (h : ROpAt w wr b s) {fs : Nat → Prop} (hf : ∀ i, fs i → i < w.heap.size) : RStoreAt wr w.heap.size b s.1 s.2 false fs := by
  obtain ⟨v, h1, h2, h3⟩ := h
  exact ⟨v, h1, h2.lower (Nat.zero_le _), fun e => by have := hf _ e; omega, fun g hg => ⟨fun e => by have := (h2.lt g hg).1; omega, fun e => by have := hf g e; have := (h2.lt g hg).1; omega⟩⟩
theorem ROpAt.fresh {w wr : World} {b : Nat} {s : Int × List Int} (h : ROpAt w wr b s) : RootNew w wr w.heap.size := by
  obtain ⟨v, h1, h2, h3⟩ := h
  intro c t fr hc g hg
  rw [h1] at hc
  injection hc with hc
  injection hc with g1 g2 g3
  subst g1
  have := (h2.lt g hg).1
  omega
def ROpenEnds (w : World) (x : Nat) (D : DS) (gs : Nat → Prop) (e : Ending) (w' : World) : Prop :=
  ∃ v, e = .returned (.tuple #[v, .int .i64 (openE D)]) ∧ Below w.heap.size w w' ∧ (openE D = 0 → ∃ y, v = .pointer (some ⟨y, 0, none⟩) ∧ w.heap.size ≤ y ∧ RStoreAt w' y x (openT D).1 (openT D).2 false gs ∧ RootNew w w' y) ∧ (openE D ≠ 0 → v = .pointer none)
set_option maxHeartbeats 8000000 in
theorem ropen_any (x : Nat) (D : DS) (R : RS) (gs : Nat → Prop) (w : World) (h : RefAt w x R gs) (hrel : Rel D R) (ho : D.Ok) :
    Calls Try.prog 23 #[.pointer (some ⟨x, 0, none⟩)] w (ROpenEnds w x D gs) := by
  have c0 : w.cell? ⟨x, 0, none⟩ = some (.int .i64 D.size) := by obtain ⟨vs, vp, es, ep, hv, _⟩ := h; rw [← hrel.size]; exact (blk_cell hv.blk 0).trans rfl
  have hp := ho.pos
  have hm := ho.max
  have hq : D.size.tdiv 4 = D.size / 4 := Int.tdiv_eq_ediv_of_nonneg (by omega)
  have hwq : wrap64 (D.size / 4) = D.size / 4 := wrap64_id _ (by omega) (by omega)
  have hgt : ¬ 16384 < D.size / 4 := by omega
  by_cases hlt4 : D.size < 16
  · have HE : Hid (openE D = 1) := Lib.hid (by unfold openE; rw [if_pos (.inl (by omega))])
    clear h hrel ho
    go_enter Try.func23, Try.ntmps23
    go_wp2
    go_ret2
    unfold ROpenEnds
    rw [HE.out]
    exact ⟨_, rfl, Below.refl _ _, fun h => (by cases h), fun _ => rfl⟩
  have HOE : Hid (openE D = if (openT D).1 = 0 ∧ (loadV D 0).any (fun c => c != 0) = true then 161 else 0) := Lib.hid (by unfold openE; rw [if_neg (by omega)])
  have HD := Lib.hid (fun w1 (hB : Below w.heap.size w w1) => h.below hB)
  have HO := Lib.hid ho
  have HREL := Lib.hid hrel
  have HLT := Lib.hid h.lt
  have HTR := Lib.hid (openK_range D ho 2)
  have HA : Hid (ROpAt w (w.alloc (.cells #[.pointer (some ⟨x, 0, none⟩), .int .u64 0, .slice none 0 0, .bool false] 65)) x (0, [])) := Lib.hid ⟨_, heap_alloc_last w _, ORow.nil _ _ _ _, below_first _⟩
  clear h hrel ho
  go_enter Try.func23, Try.ntmps23
  go_wp2
  go_loopw [5] (fun s5 wr => ∃ k : Nat, k ≤ 2 ∧ s5 = .int .i64 k ∧ Hid (ROpAt w wr x (openK D k))) (fun s5 _ => 2 - (intOf s5).toNat)
  case atStart => exact ⟨0, Nat.zero_le _, rfl, HA⟩
  case round =>
    obtain ⟨k, hk, rfl, HA⟩ := hrel
    have HBW := Lib.hid HA.out.base
    by_cases hlt : k < 2
    · have HL := Lib.hid (by have h := rload_any (HD.out wr HBW.out) (k : Int) (by omega) (by omega); rw [HREL.out.load (k : Int) (by omega) (by omega)] at h; exact h)
      have HU := Lib.hid (fun A c W (hr : ReadsInt W .u8 A (loadV D (k : Int)).length (loadV D (k : Int))) (hc : (loadV D (k : Int)).length ≤ c) => runpack_any A (loadV D (k : Int)).length c (loadV D (k : Int)) (k : Int) W hr (loadK_bytes D HO.out (k : Int) 4) hc)
      have HNX : Hid (openK D (k + 1) = if (unpackV (loadV D (k : Int)) (k : Int)).2.2.2 = 0 ∧ (unpackV (loadV D (k : Int)) (k : Int)).1 = 1 ∧ (openK D k).1 < (unpackV (loadV D (k : Int)) (k : Int)).2.1 ∧ (unpackV (loadV D (k : Int)) (k : Int)).2.1 % 2 = (k : Int) then ((unpackV (loadV D (k : Int)) (k : Int)).2.1, (unpackV (loadV D (k : Int)) (k : Int)).2.2.1) else openK D k) := Lib.hid rfl
      have hur := unpackV_range (loadK_bytes D HO.out (k : Int) 4) (k : Int)
      rw [show loadK D (k : Int) 4 = loadV D (k : Int) from rfl] at hur
      have hu0 := hur.2.2.1
      have hu1 := hur.2.2.2.1
      have HSZ := Lib.hid HA.out.lt_
      clear hur
      generalize unpackV (loadV D (k : Int)) (k : Int) = u at *
      generalize loadV D (k : Int) = lv at *
      generalize openK D k = s at *
      obtain ⟨uk, ut, uc, ue⟩ := u
      obtain ⟨st, sc⟩ := s
      have hmod : ut.tmod 2 = ut % 2 := Int.tmod_eq_emod_of_nonneg hu0
      have hwm : wrap64 (ut % 2) = ut % 2 := wrap64_id _ (by omega) (by omega)
      have hum := u64_id (x := ut % 2) (by omega) (by omega)
      simp only [] at hu0 hu1 HNX HU
      clear hu1
      by_cases c1 : ue = 0
      rotate_left
      · have c1b : (ue == 0) = false := by simp; omega
        have HE : Hid (openK D (k + 1) = (st, sc)) := Lib.hid (by rw [HNX.out, if_neg (fun h => c1 (h.1))])
        go_wp2_with (first
          | (go_at_call 48; ((with_reducible refine HL.out.mono ?_); rintro e w1 ⟨v1, rfl, hO1, hB1⟩; obtain ⟨A1, c1, rfl, hc1, hr1⟩ := hO1.reads; have HU1 := Lib.hid (HU.out A1 c1 w1 hr1 hc1); have HA1 := Lib.hid (HA.out.below hB1); clear hO1 hB1 hr1))
          | (go_at_call 13; ((with_reducible refine HU1.out.mono ?_); rintro e w2 ⟨v2, rfl, hO2, hB2⟩; have HO2 := Lib.hid (hO2.lower HA1.out.lt_); have HA2 := Lib.hid (HA1.out.below hB2); obtain ⟨e1, v8, hv8⟩ := HA2.out.cells;  clear hO2 hB2 hv8)))
        go_roundw
        case rel => exact ⟨k + 1, hlt, by go_num, Lib.hid (by rw [HE.out]; exact HA2.out)⟩
        case measure => simp [intOf]; omega
      have c1b : (ue == 0) = true := by simp; omega
      by_cases c2 : uk = 1
      rotate_left
      · have c2b : (uk == 1) = false := by simp; omega
        have HE : Hid (openK D (k + 1) = (st, sc)) := Lib.hid (by rw [HNX.out, if_neg (fun h => c2 (h.2.1))])
        go_wp2_with (first
          | (go_at_call 48; ((with_reducible refine HL.out.mono ?_); rintro e w1 ⟨v1, rfl, hO1, hB1⟩; obtain ⟨A1, c1, rfl, hc1, hr1⟩ := hO1.reads; have HU1 := Lib.hid (HU.out A1 c1 w1 hr1 hc1); have HA1 := Lib.hid (HA.out.below hB1); clear hO1 hB1 hr1))
          | (go_at_call 13; ((with_reducible refine HU1.out.mono ?_); rintro e w2 ⟨v2, rfl, hO2, hB2⟩; have HO2 := Lib.hid (hO2.lower HA1.out.lt_); have HA2 := Lib.hid (HA1.out.below hB2); obtain ⟨e1, v8, hv8⟩ := HA2.out.cells;  clear hO2 hB2 hv8)))
        go_roundw
        case rel => exact ⟨k + 1, hlt, by go_num, Lib.hid (by rw [HE.out]; exact HA2.out)⟩
        case measure => simp [intOf]; omega
      have c2b : (uk == 1) = true := by simp; omega
      by_cases c3 : st < ut
      rotate_left
      · have c3b : decide (st < ut) = false := by simp; omega
        have HE : Hid (openK D (k + 1) = (st, sc)) := Lib.hid (by rw [HNX.out, if_neg (fun h => c3 (h.2.2.1))])
        go_wp2_with (first
          | (go_at_call 48; ((with_reducible refine HL.out.mono ?_); rintro e w1 ⟨v1, rfl, hO1, hB1⟩; obtain ⟨A1, c1, rfl, hc1, hr1⟩ := hO1.reads; have HU1 := Lib.hid (HU.out A1 c1 w1 hr1 hc1); have HA1 := Lib.hid (HA.out.below hB1); clear hO1 hB1 hr1))
          | (go_at_call 13; ((with_reducible refine HU1.out.mono ?_); rintro e w2 ⟨v2, rfl, hO2, hB2⟩; have HO2 := Lib.hid (hO2.lower HA1.out.lt_); have HA2 := Lib.hid (HA1.out.below hB2); obtain ⟨e1, v8, hv8⟩ := HA2.out.cells;  clear hO2 hB2 hv8)))
        go_roundw
        case rel => exact ⟨k + 1, hlt, by go_num, Lib.hid (by rw [HE.out]; exact HA2.out)⟩
        case measure => simp [intOf]; omega
      have c3b : decide (st < ut) = true := by simp; omega
      by_cases c4 : ut % 2 = (k : Int)
      rotate_left
      · have c4b : (ut % 2 == (k : Int)) = false := by simp; omega
        have HE : Hid (openK D (k + 1) = (st, sc)) := Lib.hid (by rw [HNX.out, if_neg (fun h => c4 (h.2.2.2))])
        go_wp2_with (first
          | (go_at_call 48; ((with_reducible refine HL.out.mono ?_); rintro e w1 ⟨v1, rfl, hO1, hB1⟩; obtain ⟨A1, c1, rfl, hc1, hr1⟩ := hO1.reads; have HU1 := Lib.hid (HU.out A1 c1 w1 hr1 hc1); have HA1 := Lib.hid (HA.out.below hB1); clear hO1 hB1 hr1))
          | (go_at_call 13; ((with_reducible refine HU1.out.mono ?_); rintro e w2 ⟨v2, rfl, hO2, hB2⟩; have HO2 := Lib.hid (hO2.lower HA1.out.lt_); have HA2 := Lib.hid (HA1.out.below hB2); obtain ⟨e1, v8, hv8⟩ := HA2.out.cells;  clear hO2 hB2 hv8)))
        go_roundw
        case rel => exact ⟨k + 1, hlt, by go_num, Lib.hid (by rw [HE.out]; exact HA2.out)⟩
        case measure => simp [intOf]; omega
      have c4b : (ut % 2 == (k : Int)) = true := by simp; omega
      have HE : Hid (openK D (k + 1) = (ut, uc)) := Lib.hid (by rw [HNX.out, if_pos ⟨c1, c2, c3, c4⟩])
      go_wp2_with (first
        | (go_at_call 48; ((with_reducible refine HL.out.mono ?_); rintro e w1 ⟨v1, rfl, hO1, hB1⟩; obtain ⟨A1, c1, rfl, hc1, hr1⟩ := hO1.reads; have HU1 := Lib.hid (HU.out A1 c1 w1 hr1 hc1); have HA1 := Lib.hid (HA.out.below hB1); clear hO1 hB1 hr1))
        | (go_at_call 13; ((with_reducible refine HU1.out.mono ?_); rintro e w2 ⟨v2, rfl, hO2, hB2⟩; have HO2 := Lib.hid (hO2.lower HA1.out.lt_); have HA2 := Lib.hid (HA1.out.below hB2); obtain ⟨e1, v8, hv8⟩ := HA2.out.cells; have j1 := blk_frozen hv8 1; have j2 := blk_frozen hv8 2; have i2 : w2.cell? ⟨w.heap.size, 2, none⟩ = some v8 := (blk_cell hv8 2).trans rfl; have HA3 := Lib.hid (HA2.out.set_ (t := ut) HO2.out); obtain ⟨A2, c2, rfl, _, _⟩ := hO2.reads; clear hO2 hB2 hv8)))
      go_roundw
      case rel => exact ⟨k + 1, hlt, by go_num, Lib.hid (by rw [HE.out]; exact HA3.out)⟩
      case measure => simp [intOf]; omega
    · obtain rfl : k = 2 := by omega
      rw [show openK D 2 = openT D from rfl] at HA
      have htr := HTR.out
      rw [show openK D 2 = openT D from rfl] at htr
      obtain ⟨e1, v8, hv8⟩ := HA.out.cells
      have HST := Lib.hid (fun w1 (h : ROpAt w w1 x (openT D)) => h.store HLT.out)
      by_cases ht : (openT D).1 = 0
      · have HL := Lib.hid (by have h := rload_any (HD.out wr HBW.out) 0 (by omega) (by omega); rw [HREL.out.load 0 (by omega) (by omega)] at h; exact h)
        have htd : decide (0 < (openT D).1) = false := by rw [ht]; rfl
        have HOE2 : Hid (openE D = if (loadV D 0).any (fun c => c != 0) = true then 161 else 0) := Lib.hid (by rw [HOE.out]; by_cases h9 : (loadV D 0).any (fun c => c != 0) = true; rw [if_pos ⟨ht, h9⟩, if_pos h9]; rw [if_neg (fun h => h9 h.2), if_neg h9])
        have hll := loadK_len D HO.out 0 4
        rw [show loadK D 0 4 = loadV D 0 from rfl] at hll
        clear HOE htr HTR ht
        generalize loadV D 0 = lv at *
        generalize hsE : openT D = s at *
        go_wp2_with (first
          | (go_at_call 48; ((with_reducible refine HL.out.mono ?_); rintro e w1 ⟨v1, rfl, hO1, hB1⟩; obtain ⟨A1, c1, rfl, hc1, hr1⟩ := hO1.reads; have HR1 := Lib.hid hr1; have HA1 := Lib.hid (HA.out.below hB1); clear hO1 hB1 hr1)))
        go_loop [11] (fun s11 => ∃ k : Nat, k ≤ lv.length ∧ s11 = .int .i64 k ∧ Hid ((lv.take k).any (fun c => c != 0) = false)) (fun s11 => lv.length - (intOf s11).toNat)
        case atStart => exact ⟨0, Nat.zero_le _, rfl, Lib.hid rfl⟩
        case round =>
          obtain ⟨k, hk, rfl, HAN⟩ := hrel
          by_cases hlt : k < lv.length
          · obtain ⟨ad, rfl, hc⟩ := HR1.out.2.2 (by omega)
            have hcj := hc k hlt
            rw [show (.int .u8 (lv.getD k 0) : Value) = .int .u8 (rd lv (k : Int)) from by simp [rd]] at hcj
            have hts := List.take_succ_eq_append_getElem (l := lv) (i := k) (by omega)
            rw [← rd_lt lv k (by omega)] at hts
            have HTS := Lib.hid hts
            have HMEM : Hid (rd lv (k : Int) ∈ lv) := Lib.hid (by rw [rd_lt lv k (by omega)]; exact List.getElem_mem _)
            clear hc hts
            generalize rd lv (k : Int) = u at *
            by_cases hu : u = 0
            · subst hu
              have HA2 : Hid ((lv.take (k + 1)).any (fun c => c != 0) = false) := Lib.hid (by rw [HTS.out, List.any_append, HAN.out]; rfl)
              go_wp2
              go_round
              case rel => exact ⟨k + 1, by omega, by go_num, HA2⟩
              case measure => simp [intOf]; omega
            · have hub : (u != 0) = true := bne_iff_ne.mpr hu
              have HE : Hid (openE D = 161) := Lib.hid (by rw [HOE2.out, if_pos (List.any_eq_true.2 ⟨u, HMEM.out, hub⟩)])
              go_wp2
              go_ret2
              unfold ROpenEnds
              rw [HE.out]
              exact ⟨_, rfl, HA1.out.base, fun h => (by cases h), fun _ => rfl⟩
          · obtain rfl : k = lv.length := by omega
            rw [List.take_of_length_le (Nat.le_refl _)] at HAN
            have HE : Hid (openE D = 0) := Lib.hid (by rw [HOE2.out, HAN.out]; rfl)
            go_wp2
            go_ret2
            unfold ROpenEnds
            rw [HE.out]
            rw [hsE]; refine ⟨_, rfl, HA1.out.base, fun _ => ⟨_, rfl, Nat.le_refl _, HST.out _ HA1.out, HA1.out.fresh⟩, fun h => (h rfl).elim⟩
      · have htd : decide (0 < (openT D).1) = true := decide_eq_true (by omega)
        have HE : Hid (openE D = 0) := Lib.hid (by rw [HOE.out, if_neg (fun h => ht h.1)])
        clear HOE htr HTR
        generalize hsE : openT D = s at *
        go_wp2
        go_ret2
        unfold ROpenEnds
        rw [HE.out]
        rw [hsE]; refine ⟨_, rfl, HA.out.base, fun _ => ⟨_, rfl, Nat.le_refl _, HST.out _ HA.out, HA.out.fresh⟩, fun h => (h rfl).elim⟩
end Go.Proofs.Ytlmdghafiadgjaa
