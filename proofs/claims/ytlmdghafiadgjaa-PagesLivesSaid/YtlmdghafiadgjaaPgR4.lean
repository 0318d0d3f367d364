/- The document's pages: Unpack, walked. -/
import Derived.Test.YtlmdghafiadgjaaPgR3
import Derived.Deep.Slices
namespace Go.Proofs.Ytlmdghafiadgjaa
set_option maxRecDepth 100000
set_option linter.unusedVariables false
set_option linter.unusedSimpArgs false
open Go.RowKit Go.Proofs.YtlmdghafiadgjaaW.PrintWords Go.Proofs.YtlmdghafiadgjaaW.PrintLast

theorem add_lit (b o j : Nat) : (⟨b, o, none⟩ : Addr).add j = ⟨b, o + j, none⟩ := by unfold Addr.add; split <;> simp_all
theorem slice_any8 (w : World) (b o m c lo hi : Nat) (k2 : IntKind) (l h : Int) (hlo : l = (lo : Int)) (hhi : h = (hi : Int)) (h1 : lo ≤ hi) (h2 : hi ≤ c) (h3 : lo < c) :
    (Instr.sliceAt 23 (.slice (some ⟨b, o, none⟩) m c) (some (.int .i64 l)) (some (.int k2 h)) none).run Try.prog w = .ok (.slice (some ⟨b, o + lo, none⟩) (hi - lo) (c - lo)) w := by
  subst hlo; subst hhi
  have hs : (sizeOf (Try.prog.elem 23)).run Try.prog w = .ok 1 w := by kernel_rfl
  rw [run_sliceAt_slice (P := Try.prog) w 23 _ _ _ _ Try.underlying23, run_slice_lh (P := Try.prog) w 23 (some ⟨b, o, none⟩) m c Try.underlying23 .i64 k2 (lo : Int) (hi : Int) (by omega) (by omega) (by omega), hs]
  simp only [Result.andThen_ok, sliced, Int.toNat_natCast, Nat.mul_one]
  rw [if_neg (show ¬ c = lo by omega), Option.map_some, add_lit]
theorem reads_seg {w : World} {b o m : Nat} {xs : List Int} (h : ReadsInt w .u8 (some ⟨b, o, none⟩) m xs) {lo hi : Nat} (h1 : lo ≤ hi) (h2 : hi ≤ m) : ReadsInt w .u8 (some ⟨b, o + lo, none⟩) (hi - lo) (seg xs lo hi) := by
  have hl := h.1
  have hs := seg_len (l := xs) (a := lo) (b := hi) (by omega)
  refine ⟨hs, by have := h.2.1; omega, fun h0 => ⟨_, rfl, fun j hj => ?_⟩⟩
  obtain ⟨ad', he, hc⟩ := h.2.2 (by omega)
  injection he with he
  subst he
  have hcj := hc (lo + j) (by omega)
  rw [add_lit] at hcj ⊢
  rw [show o + lo + j = o + (lo + j) by omega, hcj]
  congr 2
  have h9 : (seg xs lo hi)[j]'(by omega) = xs[lo + j]'(by omega) := by simp [seg]
  simp only [List.getD_eq_getElem?_getD]
  rw [List.getElem?_eq_getElem (by omega), List.getElem?_eq_getElem (by omega), h9]
theorem runpack_len (A : Option Addr) (m c : Nat) (hm : m ≤ 9223372036854775807) (n : Int) (w : World) (h : m ≠ 1024) :
    Calls Try.prog 13 #[.slice A m c, .int .i64 n] w (UnpEnds w (0, 0, [], 161)) := by
  have hb : ((m : Int) != 1024) = true := bne_iff_ne.mpr (by omega)
  go_enter Try.func13, Try.ntmps13
  go_wp2
  (try simp only [Exit.inBlock, Exit.then])
  refine bodyPost_ret (results_tmp4 rfl _ _ _) rfl ?_
  exact ⟨_, rfl, ORow.nil _ _ _ _, Below.refl _ _⟩
set_option maxRecDepth 100000 in
set_option maxHeartbeats 4000000 in
theorem runpack_good (A : Option Addr) (c : Nat) (xs : List Int) (n : Int) (w : World) (hr : ReadsInt w .u8 A 1024 xs) (hb : Bytes xs) (hc : 1024 ≤ c) :
    Calls Try.prog 13 #[.slice A 1024 c, .int .i64 n] w (UnpEnds w (unpackV xs n)) := by
  have hl := hr.1
  obtain ⟨⟨b, o, spot⟩, rfl, hcell⟩ := hr.2.2 (by decide)
  have hspot : spot = none := by simpa [Addr.add] using World.cell?_spot (hcell 0 (by decide))
  subst hspot
  have hs1 := fun W => slice_any8 W b o 1024 c 2 4 .i64 2 4 rfl rfl (by decide) (by omega) (by omega)
  have hs2 := fun W => slice_any8 W b o 1024 c 8 16 .i64 8 16 rfl rfl (by decide) (by omega) (by omega)
  have HV1 := Lib.hid (fun W (hW : Below w.heap.size w W) => value_any (some ⟨b, o + 2, none⟩) 2 (c - 2) (seg xs 2 4) W (reads_seg (reads_below8 hr hW) (lo := 2) (hi := 4) (by decide) (by decide)) (seg_bytes hb 2 4) (by decide))
  have HV2 := Lib.hid (fun W (hW : Below w.heap.size w W) => value_any (some ⟨b, o + 8, none⟩) 8 (c - 8) (seg xs 8 16) W (reads_seg (reads_below8 hr hW) (lo := 8) (hi := 16) (by decide) (by decide)) (seg_bytes hb 8 16) (by decide))
  have hg := ge_range (seg_bytes hb 2 4)
  rw [seg_len (by omega)] at hg
  obtain ⟨M, hM⟩ : ∃ M : Nat, ge (seg xs 2 4) = (M : Int) := ⟨(ge (seg xs 2 4)).toNat, by omega⟩
  have hM2 : (M : Int) < 65536 := by have := hg.2; rw [hM] at this; simpa using this
  rw [hM] at HV1
  by_cases h996 : 996 < (M : Int)
  · rw [unpackV_no (fun h => by have := h.m; omega)]
    clear hg hM
    go_enter Try.func13, Try.ntmps13
    go_wp2_with (first
      | (go_at_call 40; ((with_reducible refine (HV1.out _ (Below.refl _ _)).mono ?_); rintro e w1 ⟨rfl, rfl⟩)))
    (try simp only [Exit.inBlock, Exit.then])
    refine bodyPost_ret (results_tmp4 rfl _ _ _) rfl ?_
    exact ⟨_, rfl, ORow.nil _ _ _ _, Below.refl _ _⟩
  · have hs3 := fun W => slice_any8 W b o 1024 c 20 (20 + M) .u64 20 (20 + (M : Int)) rfl (by omega) (by omega) (by omega) (by omega)
    rw [show 20 + M - 20 = M by omega] at hs3
    have hw20 := u64_id (x := 20 + (M : Int)) (by omega) (by omega)
    have hpc : pgC xs = seg xs 20 (20 + M) := by unfold pgC; rw [hM]; rfl
    have hpl : (pgC xs).length = M := by rw [hpc, seg_len (by omega)]; omega
    have hpb : Bytes (pgC xs) := by rw [hpc]; exact seg_bytes hb _ _
    have HCP := Lib.hid (copy_any (some ⟨b, o + 20, none⟩) M (c - 20) (pgC xs) w (by have := reads_seg hr (lo := 20) (hi := 20 + M) (by omega) (by omega); rw [show 20 + M - 20 = M by omega, ← hpc] at this; exact this) (by omega))
    have hpt : ge (seg xs 8 16) = pgT xs := rfl
    rw [hpt] at HV2
    have htr := pgT_range hb hl
    have hkr := rd_byte hb 0
    rw [show ((0 : Nat) : Int) = 0 from rfl] at hkr
    have HPK := Lib.hid (fun A' c' W (hr' : ReadsInt W .u8 A' (pgC xs).length (pgC xs)) => rpack_any (rd xs 0) n (pgT xs) A' c' (pgC xs) W hr' hpb hkr htr)
    have hiff := page_iff (n := n) hb
    have hc1 : w.cell? ⟨b, o, none⟩ = some (.int .u8 (rd xs 0)) := by
      have h9 := hcell 0 (by decide)
      rw [add_lit] at h9
      rw [show o = o + 0 from rfl, h9]
      simp [rd]
    have HC0 := Lib.hid hc1
    have HRD := Lib.hid hr
    have hpkb : Bytes (packV (rd xs 0) n (pgT xs) (pgC xs)).1 := by
      unfold packV
      split
      · exact fun x hx => (by cases hx)
      · split
        · exact fun x hx => (by cases hx)
        · exact packL_bytes hkr hpb
    have HNE := Lib.hid (fun (h : (packV (rd xs 0) n (pgT xs) (pgC xs)).1 ≠ xs) => (sn_beq hpkb hb).trans (decide_eq_false h))
    have HSX := Lib.hid (fun W (hB : Below w.heap.size w W) => string_of_reads (P := Try.prog) (c := c) Try.underlying23 Try.underlying5 Try.underlying9 (reads_below8 hr hB))
    clear hr hb hcell hc1 hpkb htr hM2 hg hpc hpt
    by_cases hq : (packV (rd xs 0) n (pgT xs) (pgC xs)).2 ≠ 0
    · rw [unpackV_no (fun h => by have := hiff.1 h; exact hq this.2.2.1)]
      have hqb : ((packV (rd xs 0) n (pgT xs) (pgC xs)).2 != 0) = true := bne_iff_ne.mpr hq
      clear hiff hq HNE
      generalize packV (rd xs 0) n (pgT xs) (pgC xs) = pk at *
      generalize pgC xs = cc at *
      generalize pgT xs = tt at *
      generalize rd xs 0 = kk at *
      subst hpl
      go_enter Try.func13, Try.ntmps13
      go_wp2_with (first
        | (go_at_call 40; ((with_reducible refine (HV1.out _ (Below.refl _ _)).mono ?_); rintro e w1 ⟨rfl, rfl⟩))
        | (go_at_call 35; ((with_reducible refine HCP.out.mono ?_); rintro e w2 ⟨v2, rfl, hO2, hB2⟩; obtain ⟨A2, c2, rfl, _, hr2⟩ := hO2.reads; have HB2 := Lib.hid hB2; have k1 := pw_cell_below hB2 HC0.out; have HP2 := Lib.hid (HPK.out A2 c2 w2 hr2); clear hO2 hB2 hr2))
        | (go_at_call 40; ((with_reducible refine (HV2.out _ HB2.out).mono ?_); rintro e w3 ⟨rfl, rfl⟩))
        | (go_at_call 11; ((with_reducible refine HP2.out.mono ?_); rintro e w4 ⟨v4, rfl, hO4, hB4⟩; have HB4 := Lib.hid (below_then HB2.out HB2.out.size hB4); clear hO4 hB4)))
      (try simp only [Exit.inBlock, Exit.then])
      refine bodyPost_ret (results_tmp4 rfl _ _ _) rfl ?_
      exact ⟨_, rfl, ORow.nil _ _ _ _, HB4.out⟩
    · have hq0 : (packV (rd xs 0) n (pgT xs) (pgC xs)).2 = 0 := by simpa using hq
      by_cases he : (packV (rd xs 0) n (pgT xs) (pgC xs)).1 = xs
      · rw [unpackV_yes (hiff.2 ⟨hl, by omega, hq0, he⟩)]
        have hss : ((strOfNums xs).toList == (strOfNums xs).toList) = true := by simp
        have hpk : packV (rd xs 0) n (pgT xs) (pgC xs) = (xs, 0) := Prod.ext he hq0
        rw [hpk] at HPK
        clear hiff hq HNE hq0 he hpk
        generalize pgC xs = cc at *
        generalize pgT xs = tt at *
        generalize rd xs 0 = kk at *
        subst hpl
        go_enter Try.func13, Try.ntmps13
        go_wp2_with (first
          | (go_at_call 40; ((with_reducible refine (HV1.out _ (Below.refl _ _)).mono ?_); rintro e w1 ⟨rfl, rfl⟩))
          | (go_at_call 35; ((with_reducible refine HCP.out.mono ?_); rintro e w2 ⟨v2, rfl, hO2, hB2⟩; obtain ⟨A2, c2, rfl, _, hr2⟩ := hO2.reads; have HB2 := Lib.hid hB2; have HO2 := Lib.hid hO2; have k1 := pw_cell_below hB2 HC0.out; have HP2 := Lib.hid (HPK.out A2 c2 w2 hr2); clear hO2 hB2 hr2))
          | (go_at_call 40; ((with_reducible refine (HV2.out _ HB2.out).mono ?_); rintro e w3 ⟨rfl, rfl⟩))
          | (go_at_call 11; ((with_reducible refine HP2.out.mono ?_); rintro e w4 ⟨v4, rfl, hO4, hB4⟩; obtain ⟨A4, c4, rfl, _, hr4⟩ := hO4.reads; have HB4 := Lib.hid (below_then HB2.out HB2.out.size hB4); have HO4 := Lib.hid (HO2.out.below hB4); have k3 := pw_cell_below hB4 k1; have kc1 := string_of_reads (P := Try.prog) (c := c4) Try.underlying23 Try.underlying5 Try.underlying9 hr4; have kc2 := HSX.out w4 HB4.out; rw [hl] at kc1; clear hO4 hB4 hr4)))
        (try simp only [Exit.inBlock, Exit.then])
        refine bodyPost_ret (results_tmp4 rfl _ _ _) rfl ?_
        exact ⟨_, rfl, HO4.out, HB4.out⟩
      · rw [unpackV_no (fun h => by have := hiff.1 h; exact he this.2.2.2)]
        have hss := HNE.out he
        clear hiff hq HNE
        generalize packV (rd xs 0) n (pgT xs) (pgC xs) = pk at *
        obtain ⟨px, pe⟩ := pk
        simp only at hq0 hss he
        subst hq0
        generalize pgC xs = cc at *
        generalize pgT xs = tt at *
        generalize rd xs 0 = kk at *
        subst hpl
        clear he
        go_enter Try.func13, Try.ntmps13
        go_wp2_with (first
          | (go_at_call 40; ((with_reducible refine (HV1.out _ (Below.refl _ _)).mono ?_); rintro e w1 ⟨rfl, rfl⟩))
          | (go_at_call 35; ((with_reducible refine HCP.out.mono ?_); rintro e w2 ⟨v2, rfl, hO2, hB2⟩; obtain ⟨A2, c2, rfl, _, hr2⟩ := hO2.reads; have HB2 := Lib.hid hB2; have k1 := pw_cell_below hB2 HC0.out; have HP2 := Lib.hid (HPK.out A2 c2 w2 hr2); clear hO2 hB2 hr2))
          | (go_at_call 40; ((with_reducible refine (HV2.out _ HB2.out).mono ?_); rintro e w3 ⟨rfl, rfl⟩))
          | (go_at_call 11; ((with_reducible refine HP2.out.mono ?_); rintro e w4 ⟨v4, rfl, hO4, hB4⟩; obtain ⟨A4, c4, rfl, _, hr4⟩ := hO4.reads; have HB4 := Lib.hid (below_then HB2.out HB2.out.size hB4); have kc1 := string_of_reads (P := Try.prog) (c := c4) Try.underlying23 Try.underlying5 Try.underlying9 hr4; have kc2 := HSX.out w4 HB4.out; clear hO4 hB4 hr4)))
        (try simp only [Exit.inBlock, Exit.then])
        refine bodyPost_ret (results_tmp4 rfl _ _ _) rfl ?_
        exact ⟨_, rfl, ORow.nil _ _ _ _, HB4.out⟩
theorem runpack_any (A : Option Addr) (m c : Nat) (xs : List Int) (n : Int) (w : World) (hr : ReadsInt w .u8 A m xs) (hb : Bytes xs) (hc : m ≤ c) :
    Calls Try.prog 13 #[.slice A m c, .int .i64 n] w (UnpEnds w (unpackV xs n)) := by
  by_cases h : m = 1024
  · subst h
    exact runpack_good A c xs n w hr hb hc
  · rw [unpackV_no (fun hp => h (by rw [← hr.1]; exact hp.len))]
    exact runpack_len A m c hr.2.1 n w h
end Go.Proofs.Ytlmdghafiadgjaa
