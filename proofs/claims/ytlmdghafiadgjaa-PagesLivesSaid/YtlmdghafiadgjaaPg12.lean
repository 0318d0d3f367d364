/- pages: Open, walked. -/
import Derived.Test.YtlmdghafiadgjaaPg11
namespace Go.Proofs.Ytlmdghafiadgjaa
set_option linter.unusedVariables false
set_option linter.unusedSimpArgs false
open Go.RowKit Go.Proofs.YtlmdghafiadgjaaW.PrintWords Go.Proofs.YtlmdghafiadgjaaW.PrintLast

def openStep (D : DS) (i : Int) (s : Int × List Int) : Int × List Int :=
  if (unpackV (loadV D i) i).2.2.2 = 0 ∧ (unpackV (loadV D i) i).1 = 1 ∧ s.1 < (unpackV (loadV D i) i).2.1 ∧ (unpackV (loadV D i) i).2.1 % 2 = i then ((unpackV (loadV D i) i).2.1, (unpackV (loadV D i) i).2.2.1) else s
def openK (D : DS) : Nat → Int × List Int
  | 0 => (0, [])
  | k + 1 => openStep D (k : Int) (openK D k)
def openT (D : DS) : Int × List Int := openK D 2
def openE (D : DS) : Int := if D.size / 4 < 4 ∨ 16384 < D.size / 4 then 1 else if (openT D).1 = 0 ∧ (loadV D 0).any (fun c => c != 0) = true then 161 else 0
theorem unpackV_range {xs : List Int} (hb : Bytes xs) (n : Int) : 0 ≤ (unpackV xs n).1 ∧ (unpackV xs n).1 ≤ 255 ∧ 0 ≤ (unpackV xs n).2.1 ∧ (unpackV xs n).2.1 < 18446744073709551616 ∧ (unpackV xs n).2.2.1.length ≤ 996 ∧ Bytes (unpackV xs n).2.2.1 := by
  by_cases h : IsPage xs n
  · rw [unpackV_yes h]
    have h2 := rd_byte hb 0
    have h3 := pgT_range hb h.len
    have h4 := pgC_len h.len h.m
    have h5 := h.m
    have h6 := (ge_range (seg_bytes hb 2 4)).1
    exact ⟨h2.1, h2.2, h3.1, h3.2, by show (pgC xs).length ≤ 996; omega, seg_bytes hb _ _⟩
  · rw [unpackV_no h]
    exact ⟨by decide, by decide, by decide, by decide, by decide, fun x hx => (List.not_mem_nil hx).elim⟩
theorem openK_range (D : DS) (h : D.Ok) : ∀ k, 0 ≤ (openK D k).1 ∧ (openK D k).1 < 18446744073709551616 ∧ (openK D k).2.length ≤ 996 ∧ Bytes (openK D k).2
  | 0 => ⟨Int.le_refl 0, (by decide : (0 : Int) < 18446744073709551616), Nat.zero_le 996, fun x hx => (List.not_mem_nil hx).elim⟩
  | k + 1 => by
    have h1 := openK_range D h k
    have h2 := unpackV_range (loadK_bytes D h (k : Int) 4) (k : Int)
    unfold openK openStep
    split
    · exact ⟨h2.2.2.1, h2.2.2.2.1, h2.2.2.2.2.1, h2.2.2.2.2.2⟩
    · exact h1
/-- What Open makes, while it makes it. -/
def OpAt (w wr : World) (b : Nat) (s : Int × List Int) : Prop :=
  ∃ v, wr.heap[w.heap.size]? = some (.cells #[.pointer (some ⟨b, 0, none⟩), .int .u64 s.1, v, .bool false] 34 (0, 0)) ∧ ORow .u8 5 wr (w.heap.size + 1) v s.2 ∧ Below w.heap.size w wr
theorem OpAt.below {w wr w1 : World} {b : Nat} {s : Int × List Int} (h : OpAt w wr b s) (hb : Below wr.heap.size wr w1) : OpAt w w1 b s := by
  obtain ⟨v, h1, h2, h3⟩ := h
  exact ⟨v, (hb.block _ (blk_lt h1)).trans h1, h2.below hb, below_then h3 h3.size hb⟩
theorem OpAt.cells {w wr : World} {b : Nat} {s : Int × List Int} (h : OpAt w wr b s) : wr.cell? ⟨w.heap.size, 1, none⟩ = some (.int .u64 s.1) ∧ ∃ v, wr.heap[w.heap.size]? = some (.cells #[.pointer (some ⟨b, 0, none⟩), .int .u64 s.1, v, .bool false] 34 (0, 0)) := by
  obtain ⟨v, h1, h2, h3⟩ := h
  exact ⟨(blk_cell h1 1).trans rfl, v, h1⟩
theorem OpAt.set_ {w wr : World} {b : Nat} {s : Int × List Int} (h : OpAt w wr b s) {t : Int} {xs : List Int} {u : Value} (hu : ORow .u8 5 wr (w.heap.size + 1) u xs) :
    OpAt w ((wr.setCell ⟨w.heap.size, 1, none⟩ (.int .u64 t)).setCell ⟨w.heap.size, 2, none⟩ u) b (t, xs) := by
  obtain ⟨v, h1, h2, h3⟩ := h
  have k1 := blk_set h1 1 (.int .u64 t)
  have k2 := blk_set k1 2 u
  have hne : ∀ g, u.ownBlock = some g → g ≠ w.heap.size := fun g hg e => by have := (hu.lt g hg).1; omega
  exact ⟨u, k2, own_keep hu (fun g hg => (Below.heap_setCell _ _ _ _ (hne g hg)).trans (Below.heap_setCell _ _ _ _ (hne g hg))), (h3.setCell (Nat.le_refl _) _).setCell (Nat.le_refl _) _⟩
theorem OpAt.base {w wr : World} {b : Nat} {s : Int × List Int} (h : OpAt w wr b s) : Below w.heap.size w wr := by
  obtain ⟨v, h1, h2, h3⟩ := h; exact h3
theorem OpAt.lt_ {w wr : World} {b : Nat} {s : Int × List Int} (h : OpAt w wr b s) : w.heap.size + 1 ≤ wr.heap.size := by
  obtain ⟨v, h1, h2, h3⟩ := h; exact blk_lt h1
theorem OpAt.store {w wr : World} {b : Nat} {s : Int × List Int} (h : OpAt w wr b s) {fs : Nat → Prop} (hf : ∀ i, fs i → i < w.heap.size) : StoreAt wr w.heap.size b s.1 s.2 false fs := by
  obtain ⟨v, h1, h2, h3⟩ := h
  exact ⟨v, h1, h2.lower (Nat.zero_le _), fun e => by have := hf _ e; omega, fun g hg => ⟨fun e => by have := (h2.lt g hg).1; omega, fun e => by have := hf g e; have := (h2.lt g hg).1; omega⟩⟩
/-- A store's root is in a new block. -/
def RootNew (w w' : World) (p : Nat) : Prop := ∀ c t fr, w'.heap[p]? = some (.cells c t fr) → ∀ g, (c.getD 2 undef).ownBlock = some g → w.heap.size ≤ g
theorem OpAt.fresh {w wr : World} {b : Nat} {s : Int × List Int} (h : OpAt w wr b s) : RootNew w wr w.heap.size := by
  obtain ⟨v, h1, h2, h3⟩ := h
  intro c t fr hc g hg
  rw [h1] at hc
  injection hc with hc
  injection hc with g1 g2 g3
  subst g1
  have := (h2.lt g hg).1
  omega
def OpenEnds (w : World) (b : Nat) (D : DS) (fs : Nat → Prop) (e : Ending) (w' : World) : Prop :=
  ∃ v, e = .returned (.tuple #[v, .int .i64 (openE D)]) ∧ Below w.heap.size w w' ∧ (openE D = 0 → ∃ p, v = .pointer (some ⟨p, 0, none⟩) ∧ w.heap.size ≤ p ∧ StoreAt w' p b (openT D).1 (openT D).2 false fs ∧ RootNew w w' p) ∧ (openE D ≠ 0 → v = .pointer none)
set_option maxRecDepth 100000 in
set_option maxHeartbeats 1000000 in
theorem open_no (v : Value) (w : World) (h : NoDisk w v) : Calls Try.prog 14 #[v] w fun e w' => e = .returned (.tuple #[.pointer none, .int .i64 6]) ∧ w = w' := by
  have HS := Lib.hid (size_no v w h)
  clear h
  go_enter Try.func14, Try.ntmps14
  go_wp2_with (first | (go_at_call 41; ((with_reducible refine HS.out.mono ?_); rintro e w1 ⟨rfl, rfl⟩)))
  go_ret2
  exact ⟨rfl, rfl⟩
set_option maxRecDepth 100000 in
set_option maxHeartbeats 8000000 in
theorem open_any (b : Nat) (D : DS) (fs : Nat → Prop) (w : World) (hd : DiskAt w b D fs) :
    Calls Try.prog 14 #[.pointer (some ⟨b, 0, none⟩)] w (OpenEnds w b D fs) := by
  have ho := hd.ok
  have c0 : w.cell? ⟨b, 0, none⟩ = some (.int .i64 D.size) := by obtain ⟨r, v, hv⟩ := hd; exact (blk_cell hv.blk 0).trans rfl
  have HS := Lib.hid (size_any b D.size w c0 ho.pos)
  have hp := ho.pos
  have hm := ho.max
  have hq : D.size.tdiv 4 = D.size / 4 := Int.tdiv_eq_ediv_of_nonneg (by omega)
  have hwq : wrap64 (D.size / 4) = D.size / 4 := wrap64_id _ (by omega) (by omega)
  have hne : (D.size == 0) = false := by simp; omega
  have hgt : ¬ 16384 < D.size / 4 := by omega
  by_cases hlt4 : D.size / 4 < 4
  · have HE : Hid (openE D = 1) := Lib.hid (by unfold openE; rw [if_pos (.inl hlt4)])
    clear hd c0 ho
    go_enter Try.func14, Try.ntmps14
    go_wp2_with (first | (go_at_call 41; ((with_reducible refine HS.out.mono ?_); rintro e w1 ⟨rfl, rfl⟩)))
    go_ret2
    unfold OpenEnds
    rw [HE.out]
    exact ⟨_, rfl, Below.refl _ _, fun h => (by cases h), fun _ => rfl⟩
  have HOE : Hid (openE D = if (openT D).1 = 0 ∧ (loadV D 0).any (fun c => c != 0) = true then 161 else 0) := Lib.hid (by unfold openE; rw [if_neg (fun h => h.elim hlt4 hgt)])
  have HD := Lib.hid (fun w1 (hB : Below w.heap.size w w1) => hd.below hB)
  have HO := Lib.hid ho
  have HLT := Lib.hid hd.lt
  have HA : Hid (OpAt w (w.alloc (.cells #[.pointer (some ⟨b, 0, none⟩), .int .u64 0, .slice none 0 0, .bool false] 34)) b (0, [])) := Lib.hid ⟨_, heap_alloc_last w _, ORow.nil _ _ _ _, below_first _⟩
  clear hd c0 ho
  go_enter Try.func14, Try.ntmps14
  go_wp2_with (first | (go_at_call 41; ((with_reducible refine HS.out.mono ?_); rintro e w1 ⟨rfl, rfl⟩)))
  go_loopw [28] (fun s28 wr => ∃ k : Nat, k ≤ 2 ∧ s28 = .int .i64 k ∧ Hid (OpAt w wr b (openK D k))) (fun s28 _ => 2 - (intOf s28).toNat)
  case atStart => exact ⟨0, Nat.zero_le _, rfl, HA⟩
  case round =>
    obtain ⟨k, hk, rfl, HA⟩ := hrel
    have HBW := Lib.hid HA.out.base
    by_cases hlt : k < 2
    · have HL := Lib.hid (load_any b D fs (k : Int) wr (HD.out wr HBW.out) (by omega) (by omega))
      have HU := Lib.hid (fun A c W (hr : ReadsInt W .u8 A (loadV D (k : Int)).length (loadV D (k : Int))) => unpack_any A (loadV D (k : Int)).length c (loadV D (k : Int)) (k : Int) W hr (loadK_bytes D HO.out (k : Int) 4))
      have HNX : Hid (openK D (k + 1) = if (unpackV (loadV D (k : Int)) (k : Int)).2.2.2 = 0 ∧ (unpackV (loadV D (k : Int)) (k : Int)).1 = 1 ∧ (openK D k).1 < (unpackV (loadV D (k : Int)) (k : Int)).2.1 ∧ (unpackV (loadV D (k : Int)) (k : Int)).2.1 % 2 = (k : Int) then ((unpackV (loadV D (k : Int)) (k : Int)).2.1, (unpackV (loadV D (k : Int)) (k : Int)).2.2.1) else openK D k) := Lib.hid rfl
      have hur := unpackV_range (loadK_bytes D HO.out (k : Int) 4) (k : Int)
      rw [show loadK D (k : Int) 4 = loadV D (k : Int) from rfl] at hur
      have hu0 := hur.2.2.1
      have hu1 := hur.2.2.2.1
      have HSZ := Lib.hid HA.out.lt_
      have hks : IntKind.u64.wrap (k : Int) = (k : Int) := by
        have e : (k : Int) % 18446744073709551616 = (k : Int) := Int.emod_eq_of_lt (by omega) (by omega)
        simp [IntKind.wrap, IntKind.bits, IntKind.signed, e]
      clear hur
      generalize unpackV (loadV D (k : Int)) (k : Int) = u at *
      generalize loadV D (k : Int) = lv at *
      generalize openK D k = s at *
      obtain ⟨uk, ut, uc, ue⟩ := u
      obtain ⟨st, sc⟩ := s
      have hmod : ut.tmod 2 = ut % 2 := Int.tmod_eq_emod_of_nonneg hu0
      simp only [] at hu0 hu1 HNX HU
      by_cases c1 : ue = 0
      rotate_left
      · have c1b : (ue == 0) = false := by simp; omega
        have HE : Hid (openK D (k + 1) = (st, sc)) := Lib.hid (by rw [HNX.out, if_neg (fun h => c1 (h.1))])
        go_wp2_with (first
          | (go_at_call 42; ((with_reducible refine HL.out.mono ?_); rintro e w1 ⟨v1, rfl, hO1, hB1⟩; obtain ⟨A1, c1, rfl, hc1, hr1⟩ := hO1.reads; have HU1 := Lib.hid (HU.out A1 c1 w1 hr1); have HA1 := Lib.hid (HA.out.below hB1); clear hO1 hB1 hr1))
          | (go_at_call 12; ((with_reducible refine HU1.out.mono ?_); rintro e w2 ⟨v2, rfl, hO2, hB2⟩; have HO2 := Lib.hid (hO2.lower HA1.out.lt_); have HA2 := Lib.hid (HA1.out.below hB2); obtain ⟨e1, v8, hv8⟩ := HA2.out.cells;  clear hO2 hB2 hv8)))
        go_roundw
        case rel => exact ⟨k + 1, hlt, by go_num, Lib.hid (by rw [HE.out]; exact HA2.out)⟩
        case measure => simp [intOf]; omega
      have c1b : (ue == 0) = true := by simp; omega
      by_cases c2 : uk = 1
      rotate_left
      · have c2b : (uk == 1) = false := by simp; omega
        have HE : Hid (openK D (k + 1) = (st, sc)) := Lib.hid (by rw [HNX.out, if_neg (fun h => c2 (h.2.1))])
        go_wp2_with (first
          | (go_at_call 42; ((with_reducible refine HL.out.mono ?_); rintro e w1 ⟨v1, rfl, hO1, hB1⟩; obtain ⟨A1, c1, rfl, hc1, hr1⟩ := hO1.reads; have HU1 := Lib.hid (HU.out A1 c1 w1 hr1); have HA1 := Lib.hid (HA.out.below hB1); clear hO1 hB1 hr1))
          | (go_at_call 12; ((with_reducible refine HU1.out.mono ?_); rintro e w2 ⟨v2, rfl, hO2, hB2⟩; have HO2 := Lib.hid (hO2.lower HA1.out.lt_); have HA2 := Lib.hid (HA1.out.below hB2); obtain ⟨e1, v8, hv8⟩ := HA2.out.cells;  clear hO2 hB2 hv8)))
        go_roundw
        case rel => exact ⟨k + 1, hlt, by go_num, Lib.hid (by rw [HE.out]; exact HA2.out)⟩
        case measure => simp [intOf]; omega
      have c2b : (uk == 1) = true := by simp; omega
      by_cases c3 : st < ut
      rotate_left
      · have c3b : decide (st < ut) = false := by simp; omega
        have HE : Hid (openK D (k + 1) = (st, sc)) := Lib.hid (by rw [HNX.out, if_neg (fun h => c3 (h.2.2.1))])
        go_wp2_with (first
          | (go_at_call 42; ((with_reducible refine HL.out.mono ?_); rintro e w1 ⟨v1, rfl, hO1, hB1⟩; obtain ⟨A1, c1, rfl, hc1, hr1⟩ := hO1.reads; have HU1 := Lib.hid (HU.out A1 c1 w1 hr1); have HA1 := Lib.hid (HA.out.below hB1); clear hO1 hB1 hr1))
          | (go_at_call 12; ((with_reducible refine HU1.out.mono ?_); rintro e w2 ⟨v2, rfl, hO2, hB2⟩; have HO2 := Lib.hid (hO2.lower HA1.out.lt_); have HA2 := Lib.hid (HA1.out.below hB2); obtain ⟨e1, v8, hv8⟩ := HA2.out.cells;  clear hO2 hB2 hv8)))
        go_roundw
        case rel => exact ⟨k + 1, hlt, by go_num, Lib.hid (by rw [HE.out]; exact HA2.out)⟩
        case measure => simp [intOf]; omega
      have c3b : decide (st < ut) = true := by simp; omega
      by_cases c4 : ut % 2 = (k : Int)
      rotate_left
      · have c4b : (ut % 2 == (k : Int)) = false := by simp; omega
        have HE : Hid (openK D (k + 1) = (st, sc)) := Lib.hid (by rw [HNX.out, if_neg (fun h => c4 (h.2.2.2))])
        go_wp2_with (first
          | (go_at_call 42; ((with_reducible refine HL.out.mono ?_); rintro e w1 ⟨v1, rfl, hO1, hB1⟩; obtain ⟨A1, c1, rfl, hc1, hr1⟩ := hO1.reads; have HU1 := Lib.hid (HU.out A1 c1 w1 hr1); have HA1 := Lib.hid (HA.out.below hB1); clear hO1 hB1 hr1))
          | (go_at_call 12; ((with_reducible refine HU1.out.mono ?_); rintro e w2 ⟨v2, rfl, hO2, hB2⟩; have HO2 := Lib.hid (hO2.lower HA1.out.lt_); have HA2 := Lib.hid (HA1.out.below hB2); obtain ⟨e1, v8, hv8⟩ := HA2.out.cells;  clear hO2 hB2 hv8)))
        go_roundw
        case rel => exact ⟨k + 1, hlt, by go_num, Lib.hid (by rw [HE.out]; exact HA2.out)⟩
        case measure => simp [intOf]; omega
      have c4b : (ut % 2 == (k : Int)) = true := by simp; omega
      have HE : Hid (openK D (k + 1) = (ut, uc)) := Lib.hid (by rw [HNX.out, if_pos ⟨c1, c2, c3, c4⟩])
      go_wp2_with (first
        | (go_at_call 42; ((with_reducible refine HL.out.mono ?_); rintro e w1 ⟨v1, rfl, hO1, hB1⟩; obtain ⟨A1, c1, rfl, hc1, hr1⟩ := hO1.reads; have HU1 := Lib.hid (HU.out A1 c1 w1 hr1); have HA1 := Lib.hid (HA.out.below hB1); clear hO1 hB1 hr1))
        | (go_at_call 12; ((with_reducible refine HU1.out.mono ?_); rintro e w2 ⟨v2, rfl, hO2, hB2⟩; have HO2 := Lib.hid (hO2.lower HA1.out.lt_); have HA2 := Lib.hid (HA1.out.below hB2); obtain ⟨e1, v8, hv8⟩ := HA2.out.cells; have j1 := blk_frozen hv8 1; have j2 := blk_frozen hv8 2; have i2 : w2.cell? ⟨w.heap.size, 2, none⟩ = some v8 := (blk_cell hv8 2).trans rfl; have HA3 := Lib.hid (HA2.out.set_ (t := ut) HO2.out); obtain ⟨A2, c2, rfl, _, _⟩ := hO2.reads; clear hO2 hB2 hv8)))
      go_roundw
      case rel => exact ⟨k + 1, hlt, by go_num, Lib.hid (by rw [HE.out]; exact HA3.out)⟩
      case measure => simp [intOf]; omega
    · obtain rfl : k = 2 := by omega
      rw [show openK D 2 = openT D from rfl] at HA
      obtain ⟨e1, v8, hv8⟩ := HA.out.cells
      have HST := Lib.hid (fun w1 (h : OpAt w w1 b (openT D)) => h.store HLT.out)
      by_cases ht : (openT D).1 = 0
      · have HL := Lib.hid (load_any b D fs 0 wr (HD.out wr HBW.out) (by omega) (by omega))
        have HCO := Lib.hid (fun A c W (hr : ReadsInt W .u8 A (loadV D 0).length (loadV D 0)) => contains_o A (loadV D 0).length c (loadV D 0) W hr)
        have htb : ((openT D).1 == 0) = true := by simpa using ht
        have htd : decide ((openT D).1 = 0) = true := decide_eq_true ht
        rcases hany : (loadV D 0).any (fun c => c != 0) with _ | _
        · have HE : Hid (openE D = 0) := Lib.hid (by rw [HOE.out, if_neg (fun h => by rw [hany] at h; exact Bool.noConfusion h.2)])
          rw [hany] at HCO
          clear hany HOE
          generalize loadV D 0 = lv at *
          generalize hsE : openT D = s at *
          go_wp2_with (first
            | (go_at_call 42; ((with_reducible refine HL.out.mono ?_); rintro e w1 ⟨v1, rfl, hO1, hB1⟩; obtain ⟨A1, c1, rfl, hc1, hr1⟩ := hO1.reads; have HC1 := Lib.hid (HCO.out A1 c1 w1 hr1); have HA1 := Lib.hid (HA.out.below hB1); clear hO1 hB1 hr1))
            | (go_at_call 37; ((with_reducible refine HC1.out.mono ?_); rintro e w2 ⟨rfl, rfl⟩)))
          go_ret2
          unfold OpenEnds
          rw [HE.out]
          rw [hsE]; refine ⟨_, rfl, HA1.out.base, fun _ => ⟨_, rfl, Nat.le_refl _, HST.out _ HA1.out, HA1.out.fresh⟩, fun h => (h rfl).elim⟩
        · have HE : Hid (openE D = 161) := Lib.hid (by rw [HOE.out, if_pos ⟨ht, hany⟩])
          rw [hany] at HCO
          clear hany HOE
          generalize loadV D 0 = lv at *
          generalize hsE : openT D = s at *
          go_wp2_with (first
            | (go_at_call 42; ((with_reducible refine HL.out.mono ?_); rintro e w1 ⟨v1, rfl, hO1, hB1⟩; obtain ⟨A1, c1, rfl, hc1, hr1⟩ := hO1.reads; have HC1 := Lib.hid (HCO.out A1 c1 w1 hr1); have HA1 := Lib.hid (HA.out.below hB1); clear hO1 hB1 hr1))
            | (go_at_call 37; ((with_reducible refine HC1.out.mono ?_); rintro e w2 ⟨rfl, rfl⟩)))
          go_ret2
          unfold OpenEnds
          rw [HE.out]
          exact ⟨_, rfl, HA1.out.base, fun h => (by cases h), fun _ => rfl⟩
      · have htb : ((openT D).1 == 0) = false := by simpa using ht
        have htd : decide ((openT D).1 = 0) = false := decide_eq_false ht
        have HE : Hid (openE D = 0) := Lib.hid (by rw [HOE.out, if_neg (fun h => ht h.1)])
        clear HOE
        generalize hsE : openT D = s at *
        go_wp2
        go_ret2
        unfold OpenEnds
        rw [HE.out]
        rw [hsE]; refine ⟨_, rfl, HA.out.base, fun _ => ⟨_, rfl, Nat.le_refl _, HST.out _ HA.out, HA.out.fresh⟩, fun h => (h rfl).elim⟩
end Go.Proofs.Ytlmdghafiadgjaa
