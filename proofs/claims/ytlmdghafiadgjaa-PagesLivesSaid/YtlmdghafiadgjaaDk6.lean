/- The disk: Sync. -/
import Derived.Test.YtlmdghafiadgjaaDk5
namespace Go.Proofs.Ytlmdghafiadgjaa
open Go.RowKit Go.Proofs.YtlmdghafiadgjaaW.PrintWords
open Go.ChangeMaps (setBlock)

theorem DkV.keep {w w' : World} {b r : Nat} {v : Value} {D : DS} {fs : Nat → Prop} (h : DkV w b r v D fs) (hk : ∀ i, fs i → w'.heap[i]? = w.heap[i]?) : DkV w' b r v D fs := by
  obtain ⟨hb, ⟨F, hm, hF⟩, hp, hf, ho⟩ := h
  exact ⟨(hk b ((hf b).2 (.inl rfl))).trans hb, ⟨F, hm.keep (hk r ((hf r).2 (.inr (.inl rfl)))), hF⟩, own_keep hp (fun g hg => hk g ((hf g).2 (.inr (.inr hg)))), hf, ho⟩
theorem DkV.at_ {w : World} {b r : Nat} {v : Value} {D : DS} {fs : Nat → Prop} (h : DkV w b r v D fs) : DiskAt w b D fs := ⟨r, v, h⟩
theorem DkV.below {w w' : World} {b r : Nat} {v : Value} {D : DS} {fs : Nat → Prop} (h : DkV w b r v D fs) (hk : Below w.heap.size w w') : DkV w' b r v D fs := h.keep fun i hi => hk.block i (h.at_.lt i hi)
theorem DkV.alloc {w : World} {b r : Nat} {v : Value} {D : DS} {fs : Nat → Prop} (h : DkV w b r v D fs) (o : Obj) : DkV (w.alloc o) b r v D fs := h.below (below_first o)
def flush (S : Int → List Int) (ps : List (Int × List Int)) : Int → List Int := ps.foldl (fun S p => updS S p.1 p.2) S
theorem flush_snoc (S : Int → List Int) (ps : List (Int × List Int)) (p : Int × List Int) : flush S (ps ++ [p]) = updS (flush S ps) p.1 p.2 := by simp [flush]
theorem flush_blk {S : Int → List Int} {ps : List (Int × List Int)} (hS : ∀ k, Blk (S k)) (h : ∀ p ∈ ps, Blk p.2) (k : Int) : Blk (flush S ps k) := by
  induction ps generalizing S with
  | nil => exact hS k
  | cons p ps ih =>
    show Blk (flush (updS S p.1 p.2) ps k)
    refine ih (fun j => ?_) (fun q hq => h q (by simp [hq]))
    unfold updS
    split
    · exact h p (by simp)
    · exact hS j
/-- The list of a disk is made nil. -/
theorem DkV.none_ {w : World} {b r : Nat} {v : Value} {D : DS} {fs : Nat → Prop} (h : DkV w b r v D fs) : DkV (w.setCell ⟨b, 2, none⟩ (.slice none 0 0)) b r (.slice none 0 0) { D with pend := [] } (fun i => i = b ∨ i = r) := by
  obtain ⟨hh, ⟨F, hm, hF⟩, hp, hf, ho⟩ := h
  have hrb : r ≠ b := fun e => by
    subst e
    obtain ⟨es, cl, l, hx, _⟩ := hm
    rw [hh] at hx; cases hx
  exact ⟨blk_set hh 2 _, ⟨F, hm.keep (Below.heap_setCell _ _ _ _ hrb), hF⟩, own_nil _ _ _ _, fun i => by simp [Value.ownBlock], ⟨ho.pos, ho.max, ho.sure, fun p hp => by cases hp⟩⟩
def syncV (D : DS) : Int × DS := if (planV D).1 ≠ 0 then planV D else (0, { (planV D).2 with sure := flush D.sure D.pend, pend := [] })
set_option maxRecDepth 100000 in
set_option maxHeartbeats 1000000 in
theorem sync_no (p : Value) (w : World) (h : NoDisk w p) : Calls Try.prog 47 #[p] w fun e w' => e = .returned (.int .i64 6) ∧ w = w' := by
  have HM := Lib.hid (made_no p w h)
  clear h
  go_enter Try.func47, Try.ntmps47
  go_wp2_with (first | (go_at_call 51; ((with_reducible refine HM.out.mono ?_); rintro e w1 ⟨rfl, rfl⟩)))
  go_ret
  exact ⟨rfl, rfl⟩
set_option maxRecDepth 100000 in
set_option maxHeartbeats 1000000 in
theorem sync_plan (b : Nat) (D : DS) (fs : Nat → Prop) (w : World) (h : DiskAt w b D fs) (ha : D.after ≤ 9223372036854775807) (hp : (planV D).1 ≠ 0) :
    Calls Try.prog 47 #[.pointer (some ⟨b, 0, none⟩)] w fun e w' => e = .returned (.int .i64 (planV D).1) ∧ DiskAt w' b (planV D).2 fs ∧ Frame fs w w' := by
  have HP := Lib.hid (plan_any b D fs w h ha)
  have ho := h.ok
  obtain ⟨r, v, hd⟩ := h
  have c0 : w.cell? ⟨b, 0, none⟩ = some (.int .i64 D.size) := (blk_cell hd.blk 0).trans rfl
  have HM := Lib.hid (made_yes b D.size w c0 ho.pos)
  have b1 : ((planV D).1 != 0) = true := bne_iff_ne.mpr hp
  clear hd ho hp
  generalize planV D = pv at *
  go_enter Try.func47, Try.ntmps47
  go_wp2_with (first
    | (go_at_call 51; ((with_reducible refine HM.out.mono ?_); rintro e w1 ⟨rfl, rfl⟩))
    | (go_at_call 57; ((with_reducible refine HP.out.mono ?_); rintro e w1 ⟨rfl, hD1, hF1⟩; have HD1 := Lib.hid hD1; have HF1 := Lib.hid hF1; clear hD1 hF1)))
  go_ret
  exact ⟨rfl, HD1.out, HF1.out⟩
set_option maxRecDepth 100000 in
set_option maxHeartbeats 2000000 in
theorem sync_ok (b : Nat) (D : DS) (fs : Nat → Prop) (w : World) (h : DiskAt w b D fs) (ha : D.after ≤ 9223372036854775807) (hp : (planV D).1 = 0) :
    Calls Try.prog 47 #[.pointer (some ⟨b, 0, none⟩)] w fun e w' => e = .returned (.int .i64 0) ∧ Eff w b fs { (planV D).2 with sure := flush D.sure D.pend, pend := [] } w' := by
  have HP := Lib.hid (plan_any b D fs w h ha)
  have ho := h.ok
  obtain ⟨r0, v0, hd⟩ := h
  have c0 : w.cell? ⟨b, 0, none⟩ = some (.int .i64 D.size) := (blk_cell hd.blk 0).trans rfl
  have HM := Lib.hid (made_yes b D.size w c0 ho.pos)
  rw [hp] at HP
  obtain ⟨hpe, _, hps⟩ := planV_pend D
  rw [← hpe, ← hps]
  clear hd ho hp hpe hps
  generalize (planV D).2 = D1 at *
  have hzw := zero_wr
  go_enter Try.func47, Try.ntmps47
  go_wp2_with (first
    | (go_at_call 51; ((with_reducible refine HM.out.mono ?_); rintro e w1 ⟨rfl, rfl⟩))
    | (go_at_call 57; ((with_reducible refine HP.out.mono ?_); rintro e w1 ⟨rfl, hD1, hF1⟩; obtain ⟨r, v, hd1⟩ := hD1; obtain ⟨A, c, rfl⟩ := own_slice hd1.pend; have c2 : w1.cell? ⟨b, 2, none⟩ = some (.slice A D1.pend.length c) := (blk_cell hd1.blk 2).trans rfl; have HD1 := Lib.hid hd1; have HF1 := Lib.hid hF1; clear hd1 hF1)))
  go_loopw [19] (fun s19 wr => ∃ k : Nat, k ≤ D1.pend.length ∧ s19 = .int .i64 k ∧ Hid (DkV wr b r (.slice A D1.pend.length c) { D1 with sure := flush D1.sure (D1.pend.take k) } fs) ∧ Hid (Frame fs w wr)) (fun s19 _ => D1.pend.length - (intOf s19).toNat)
  case atStart => exact ⟨0, Nat.zero_le _, rfl, HD1, HF1⟩
  case round =>
    obtain ⟨k, hk, rfl, HD, HF⟩ := hrel
    have hnm : D1.pend.length ≤ 9223372036854775807 := own_max HD.out.pend
    by_cases hlt : k < D1.pend.length
    · obtain ⟨g, rfl⟩ : ∃ g, A = some ⟨g, 0, none⟩ := by
        obtain ⟨g, cap, he, _⟩ := own_form HD.out.pend (show 0 < D1.pend.length by omega)
        injection he with h1
        exact ⟨g, h1⟩
      have hrg := pend_range (ps := D1.pend) HD.out.pend HD.out.ok.pend hlt
      have hpb : Blk D1.pend[k].2 := HD.out.ok.pend D1.pend[k] (List.getElem_mem hlt)
      have HTK : Hid (flush D1.sure (D1.pend.take (k + 1)) = updS (flush D1.sure (D1.pend.take k)) D1.pend[k].1 D1.pend[k].2) := Lib.hid (by rw [List.take_succ_eq_append_getElem hlt, flush_snoc])
      generalize flush D1.sure (D1.pend.take k) = S0 at *
      generalize D1.pend[k] = p at *
      obtain ⟨pa, pb⟩ := p
      have hpl : pb.length = 256 := hpb.1
      have HPB := Lib.hid hpb
      have hN := heap_alloc_last wr (.cells (wcells (pa, pb)).toArray 89)
      have hc0 : (wr.alloc (.cells (wcells (pa, pb)).toArray 89)).cell? ⟨wr.heap.size, 0, none⟩ = some (.int .i64 pa) := (blk_cell hN 0).trans rfl
      have hrN : (wr.alloc (.cells (wcells (pa, pb)).toArray 89)).rangeAt wr.heap.size 1 (nums .u8 pb) := by
        intro j v hv
        refine (blk_cell hN (1 + j)).trans ?_
        simp only [wcells, List.getElem?_toArray]
        rw [show 1 + j = j + 1 by omega, List.getElem?_cons_succ]; exact hv
      have HSZ : Hid ((wcells (0, z256)).toArray.size = (wcells (pa, pb)).toArray.size) := Lib.hid (by simp [wcells, nums, hpl, z256_len])
      have HPUT := Lib.hid (put_v b r _ _ fs pa pb _ (HD.out.alloc (.cells (wcells (pa, pb)).toArray 89)) HPB.out)
      have HFN := Lib.hid (HF.out.alloc (.cells (wcells (pa, pb)).toArray 89))
      clear hN hpb
      go_wp2_with (first
        | ((with_reducible refine at_load_mid (x := .tmp 21) (d := some 22) g (k * 257) (wcells (pa, pb)) _ hrg Try.underlying89 (infoWrL (pa, pb) hpl) rfl ?_ ?_); rfl)
        | ((with_reducible refine at_store_new (x := .tmp 5) (y := .tmp 22) wr _ (wcells (pa, pb)).toArray (infoWr' (pa, pb) hpl) HSZ.out (wcells_all _) ?_ ?_ ?_); rfl; rfl)
        | ((with_reducible refine at_load_mid (x := .tmp 26) (d := some 27) wr.heap.size 1 (nums .u8 pb) _ hrN Try.underlying87 (infoBlkL pb hpl) rfl ?_ ?_); rfl)
        | (go_at_call 52; ((with_reducible refine HPUT.out.mono ?_); rintro e w5 ⟨rfl, hD5, hF5⟩; have HD5 := Lib.hid hD5; have HF5 := Lib.hid (HFN.out.same hF5); clear hD5 hF5)))
      go_roundw
      case rel => exact ⟨k + 1, hlt, by go_num, Lib.hid (by rw [HTK.out]; exact HD5.out), HF5⟩
      case measure => simp [intOf]; omega
    · have HE : Hid (flush D1.sure (D1.pend.take k) = flush D1.sure D1.pend) := Lib.hid (by rw [List.take_of_length_le (by omega)])
      rw [HE.out] at HD
      have e2 : wr.cell? ⟨b, 2, none⟩ = some (.slice A D1.pend.length c) := (blk_cell HD.out.blk 2).trans rfl
      have f2 := blk_frozen HD.out.blk 2
      go_wp2
      go_ret
      exact ⟨rfl, _, HD.out.none_.at_, frame_set HF.out HD.out.at_.self _ _, fun i hi => .inl ((HD.out.foot i).2 (hi.elim .inl (fun h => .inr (.inl h))))⟩
theorem sync_any (b : Nat) (D : DS) (fs : Nat → Prop) (w : World) (h : DiskAt w b D fs) (ha : D.after ≤ 9223372036854775807) :
    Calls Try.prog 47 #[.pointer (some ⟨b, 0, none⟩)] w fun e w' => e = .returned (.int .i64 (syncV D).1) ∧ Eff w b fs (syncV D).2 w' := by
  unfold syncV
  by_cases h3 : (planV D).1 ≠ 0
  · simp only [if_pos h3]
    exact (sync_plan b D fs w h ha h3).mono fun e w' ⟨h4, h5, h6⟩ => ⟨h4, fs, h5, h6, fun _ hh => .inl hh⟩
  · simp only [if_neg h3]
    exact sync_ok b D fs w h ha (by simpa using h3)
end Go.Proofs.Ytlmdghafiadgjaa
