/- charset: Encode, the main way; Least. -/
import Derived.Test.YtpbgpbblbohmgaaChE3
namespace Go.Proofs.Ytpbgpbblbohmgaa
open Go.RowKit Go.Proofs.YtpbgpbblbohmgaaW.PrintWords

theorem encF_len (f : Int) : ∀ ps : List Int, (encF f ps).1.length ≤ 4 * ps.length
  | [] => by simp [encF]
  | p :: t => by
    have ih := encF_len f t
    rcases h : writeV f p with _ | bs
    · rw [encF_none h]; simp
    · have := writeV_len h
      rw [encF_some h]; simp [joinD]; omega
set_option maxRecDepth 100000 in
set_option maxHeartbeats 4000000 in
theorem encode_main (s : ByteArray) (A : Option Addr) (l : List Int) (c : Nat) (w : World) (hr : ReadsInt w .u8 A l.length l) (hby : Bytes l) (hc : l.length ≤ c) (hs : s.size ≤ 9223372036854775807) (hl : l.length ≤ 1048576) (hf : formV s ≠ 0) (hcd : (ptsV l).2.2 = 0) :
    Calls Try.prog 14 #[.string s, .slice A l.length c] w (TxtPost w (encodeV s l)) := by
  have HC := Lib.hid (fun W => fits_any s A l.length c W hs hl)
  have HE : Hid (fitsE s = 0) := Lib.hid (by rw [fitsE, if_neg hf])
  have HP := Lib.hid (fun W h => points_any A l c W h hby hc (by omega))
  have hv : vldV l = true := by
    rw [ptsV_code] at hcd
    cases h : vldV l with
    | true => rfl
    | false => rw [h] at hcd; simp at hcd
  obtain ⟨ps, hps, hle, hpv⟩ := ptsV_valid l hby hv
  have hpl : ps.length ≤ l.length := by
    have h := dec_len l.length l
    have e : (ptsV l).1.length ≤ l.length := by rw [ptsV_res]; exact resV_len h
    rw [hpv] at e; exact e
  have HD : Hid (encodeV s l = resE (formV s) (encF (formV s) ps)) := Lib.hid (by rw [encodeV, if_neg hf, if_pos hcd, hpv])
  have HR := Lib.hid hr
  unfold FitsPost at HC
  rw [HE.out] at HC
  rw [hpv] at HP
  have HALL := Lib.hid hps
  have hpl2 : ps.length ≤ 1048576 := by omega
  generalize formV s = f at *
  generalize encodeV s l = V at *
  clear hf hr hby hl hcd hv hle hpv hpl hps
  have hcase : f = 6 ∨ f ≠ 6 := by omega
  rcases hcase with h6 | h6
  · have b6 : (f == 6) = true := beq_iff_eq.mpr h6
    have HBM : Hid (bomV f = [254, 255]) := Lib.hid (by rw [bomV, if_pos h6])
    clear h6
    go_enter Try.func14, Try.ntmps14
    go_wp2_with (first
      | (go_at_call 19; ((with_reducible refine (HC.out _).mono ?_); rintro e w1 ⟨rfl, hB⟩; have HF1 := Lib.hid (blk_below (heap_alloc_new w (.cells #[.int .i64 0, .int .i64 0] 26)) hB); have HB1 := Lib.hid (below_then (below_first _) (below_first _).size hB); have hszz : w.heap.size < w1.heap.size := blk_lt HF1.out; clear hB))
      | (go_at_call 15; ((with_reducible refine (HP.out _ (HR.out.below (below_alloc HB1.out _))).mono ?_); rintro e w2 ⟨v, rfl, hO, hB⟩; obtain ⟨A2, c2, rfl, hc2, hRx⟩ := hO.reads; clear hRx hc2; have HG2 := Lib.hid (blk_below (heap_alloc_new w1 (.cells #[.int .i64 0, .int .i64 0] 26)) hB); have HF2 := Lib.hid (blk_below (blk_below HF1.out (below_first (.cells #[.int .i64 0, .int .i64 0] 26))) hB); have HO2 := Lib.hid (ORow.lower (base' := w.heap.size) hO (below_alloc HB1.out _).size); have HB2 := Lib.hid (below_then (below_alloc HB1.out _) (below_alloc HB1.out _).size hB); have c0 : w2.cell? ⟨w1.heap.size, 0, none⟩ = some (.int .i64 0) := (blk_cell HG2.out 0).trans rfl; have c1 : w2.cell? ⟨w1.heap.size, 1, none⟩ = some (.int .i64 0) := (blk_cell HG2.out 1).trans rfl; have z0 := blk_frozen HG2.out 0; have z1 := blk_frozen HG2.out 1; have HF5 := Lib.hid (blk_far (blk_far HF2.out (p := ⟨w1.heap.size, 0, none⟩) (Nat.ne_of_lt hszz) (.int .i64 0)) (p := ⟨w1.heap.size, 1, none⟩) (Nat.ne_of_lt hszz) (.int .i64 0)); have HB5 := Lib.hid (below_set (below_set HB2.out (Nat.le_of_lt hszz) (j := 0) (v := .int .i64 0)) (Nat.le_of_lt hszz) (j := 1) (v := .int .i64 0)); have HP5 := Lib.hid ((HO2.out.set_ HG2.out (by decide) 0 (.int .i64 0)).set_ (blk_set HG2.out 0 _) (by decide) 1 (.int .i64 0)); have HSZ5 : Hid (w.heap.size ≤ ((w2.setCell ⟨w1.heap.size, 0, none⟩ (.int .i64 0)).setCell ⟨w1.heap.size, 1, none⟩ (.int .i64 0)).heap.size) := Lib.hid HB5.out.size; clear hO hB))
      | (go_at_call 26; ((with_reducible refine (cput_any 65279 false w.heap.size (.slice none 0 0) [] _ (by omega) (by omega) (ORow.nil _ _ _ _) HSZ5.out (by simp)).mono ?_); rintro e w3 ⟨v3, rfl, hPT⟩; have HO9 : Hid (ORow .u8 5 w3 w.heap.size v3 (bomV f)) := Lib.hid (by rw [HBM.out]; exact hPT.own); have HF9 := Lib.hid (hPT.blk (ORow.nil _ _ _ _) HF5.out (by decide)); have HP9 := Lib.hid (hPT.row (ORow.nil _ _ _ _) HP5.out); have HB9 : Hid (Below w.heap.size w w3) := Lib.hid (HB5.out.trans hPT.bel); clear hPT)))
    go_loopw [9, 10, 42] (fun s9 s10 s42 wr => ∃ (acc : List Int) (at_ n : Nat), n ≤ ps.length ∧ s42 = .int .i64 n ∧ s10 = .int .i64 at_ ∧ at_ ≤ 4 * n ∧ Hid (ORow .u8 5 wr w.heap.size s9 (bomV f ++ acc)) ∧ Hid (wr.heap[w.heap.size]? = some (.cells #[.int .i64 0, .int .i64 0] 26 (0, 0))) ∧ Hid (Below w.heap.size w wr) ∧ Hid (ORow .i32 21 wr w.heap.size (.slice A2 ps.length c2) ps) ∧ Hid (encF f ps = joinD acc at_ (encF f (ps.drop n))) ∧ Hid (acc.length ≤ 4 * n)) (fun _ _ s42 _ => ps.length - (intOf s42).toNat)
    case atStart => exact ⟨[], 0, 0, Nat.zero_le _, rfl, rfl, Nat.le_refl _, Lib.hid (by rw [List.append_nil]; exact HO9.out), HF9, HB9, HP9, Lib.hid (by simp [joinD]), Lib.hid (Nat.zero_le _)⟩
    case round =>
      obtain ⟨acc, at_, n, hn, rfl, rfl, hat, HO, HF, HB, HPS, HDD, HA⟩ := hrel
      have HW : Hid (w.heap.size ≤ wr.heap.size) := Lib.hid HB.out.size
      have HBL : Hid ((bomV f).length ≤ 2) := Lib.hid (by unfold bomV; split <;> simp)
      by_cases hlt : n < ps.length
      · obtain ⟨ad, hA2, hcell⟩ := (own_reads' HPS.out).at_ (n : Int) (by omega) (by omega)
        subst hA2
        simp only [Int.toNat_natCast] at hcell
        have HEX : Hid (ps.drop n = rd ps (n : Int) :: ps.drop (n + 1)) := Lib.hid (by rw [rd_lt ps n hlt]; exact List.drop_eq_getElem_cons hlt)
        have HPT : Hid (isPt (rd ps (n : Int)) = true) := Lib.hid (by rw [rd_lt ps n hlt]; exact HALL.out _ (List.getElem_mem hlt))
        generalize rd ps (n : Int) = p at *
        have hlen : (bomV f ++ acc).length ≤ 17592186044416 := by have := HA.out; have := HBL.out; rw [List.length_append]; omega
        rcases hwv : writeV f p with _ | bs
        · have HCW := Lib.hid (fun v0 => write_any_none f p v0 wr hwv)
          unfold WNone at HCW
          have HV2 : Hid (V = ([], (at_ : Int), 10)) := Lib.hid (by
            rw [HD.out]
            have h2 := HDD.out
            rw [HEX.out, encF_none hwv] at h2
            simp [resE, h2, joinD])
          clear hwv hlen
          go_wp2_with (first
            | (go_at_call 27; ((with_reducible refine (HCW.out _).mono ?_); rintro e w4 ⟨rfl, hB4⟩; have HF4 := Lib.hid (blk_below HF.out hB4); have HB4 := Lib.hid (below_then HB.out HW.out hB4); have c0 : w4.cell? ⟨w.heap.size, 0, none⟩ = some (.int .i64 0) := (blk_cell HF4.out 0).trans rfl; have c1 : w4.cell? ⟨w.heap.size, 1, none⟩ = some (.int .i64 0) := (blk_cell HF4.out 1).trans rfl; have z0 := blk_frozen HF4.out 0; have z1 := blk_frozen HF4.out 1; clear hB4)))
          have HF8 := blk_set (blk_set HF4.out 0 (.int .i64 (at_ : Int))) 1 (.int .i64 10)
          refine bodyPost_ret (results_tc rfl _ _ _ _ _ _ _ rfl HF8 Try.underlying26 rfl (by kernel_rfl)) rfl ?_
          rw [HV2.out]
          exact ⟨_, rfl, ORow.nil _ _ _ _, below_set (below_set HB4.out (Nat.le_refl _)) (Nat.le_refl _)⟩
        · have HCW := Lib.hid (write_any f p w.heap.size _ (bomV f ++ acc) wr HPT.out HO.out HW.out hlen hwv)
          unfold WSome at HCW
          have HD2 : Hid (encF f ps = joinD (acc ++ bs) (at_ + (putB p).length) (encF f (ps.drop (n + 1)))) := Lib.hid (by rw [HDD.out, HEX.out, encF_some hwv, joinD_joinD])
          have HBS := Lib.hid (writeV_len hwv)
          have HPB := Lib.hid (putB_len p)
          have HCP := Lib.hid (fun W => put_ok p W HPT.out)
          clear hwv hlen HDD HEX
          generalize putB p = pb at *
          have hpb : pb.length ≤ 4 := HPB.out
          go_wp2_with (first
            | (go_at_call 27; ((with_reducible refine HCW.out.mono ?_); rintro e w4 ⟨v4, rfl, hPT4⟩; have HO4 := Lib.hid hPT4.own; have HF4 := Lib.hid (hPT4.blk HO.out HF.out (by decide)); have HP4 := Lib.hid (hPT4.row HO.out HPS.out); have HB4 : Hid (Below w.heap.size w w4) := Lib.hid (HB.out.trans hPT4.bel); have HW4 : Hid (w.heap.size ≤ w4.heap.size) := Lib.hid HB4.out.size; clear hPT4))
            | (go_at_call 28; ((with_reducible refine (HCP.out _).mono ?_); rintro e w5 ⟨v5, rfl, hO5, hB5⟩; obtain ⟨A5, c5, rfl, _, _⟩ := hO5.reads; have HO5 := Lib.hid (HO4.out.below hB5); have HF5 := Lib.hid (blk_below HF4.out hB5); have HP5 := Lib.hid (HP4.out.below hB5); have HB5 := Lib.hid (below_then HB4.out HW4.out hB5); clear hO5 hB5)))
          go_roundw
          case rel => exact ⟨acc ++ bs, at_ + pb.length, n + 1, hlt, by go_num, by go_num, by omega, Lib.hid (by rw [← List.append_assoc]; exact HO5.out), HF5, HB5, HP5, HD2, Lib.hid (by have := HA.out; have := HBS.out; simp; omega)⟩
          case measure => simp [intOf]; omega
      · have hnl : n = ps.length := by omega
        have HV2 : Hid (V = (bomV f ++ acc, 0, 0)) := Lib.hid (by
          rw [HD.out]
          have h2 := HDD.out
          rw [hnl, List.drop_length, encF_nil] at h2
          simp [resE, h2, joinD])
        have c0 : wr.cell? ⟨w.heap.size, 0, none⟩ = some (.int .i64 0) := (blk_cell HF.out 0).trans rfl
        have c1 : wr.cell? ⟨w.heap.size, 1, none⟩ = some (.int .i64 0) := (blk_cell HF.out 1).trans rfl
        have z0 := blk_frozen HF.out 0
        have z1 := blk_frozen HF.out 1
        clear hnl
        go_wp2
        have HF1 := blk_set (blk_set HF.out 0 (.int .i64 0)) 1 (.int .i64 0)
        refine bodyPost_ret (results_tc rfl _ _ _ _ _ _ _ rfl HF1 Try.underlying26 rfl (by kernel_rfl)) rfl ?_
        rw [HV2.out]
        exact ⟨_, rfl, (HO.out.set_ HF.out (by decide) 0 _).set_ (blk_set HF.out 0 _) (by decide) 1 _, below_set (below_set HB.out (Nat.le_refl _)) (Nat.le_refl _)⟩
  · have b6 : (f == 6) = false := beq_eq_false_iff_ne.mpr h6
    have HBM : Hid (bomV f = []) := Lib.hid (by rw [bomV, if_neg h6])
    clear h6
    go_enter Try.func14, Try.ntmps14
    go_wp2_with (first
      | (go_at_call 19; ((with_reducible refine (HC.out _).mono ?_); rintro e w1 ⟨rfl, hB⟩; have HF1 := Lib.hid (blk_below (heap_alloc_new w (.cells #[.int .i64 0, .int .i64 0] 26)) hB); have HB1 := Lib.hid (below_then (below_first _) (below_first _).size hB); have hszz : w.heap.size < w1.heap.size := blk_lt HF1.out; clear hB))
      | (go_at_call 15; ((with_reducible refine (HP.out _ (HR.out.below (below_alloc HB1.out _))).mono ?_); rintro e w2 ⟨v, rfl, hO, hB⟩; obtain ⟨A2, c2, rfl, hc2, hRx⟩ := hO.reads; clear hRx hc2; have HG2 := Lib.hid (blk_below (heap_alloc_new w1 (.cells #[.int .i64 0, .int .i64 0] 26)) hB); have HF2 := Lib.hid (blk_below (blk_below HF1.out (below_first (.cells #[.int .i64 0, .int .i64 0] 26))) hB); have HO2 := Lib.hid (ORow.lower (base' := w.heap.size) hO (below_alloc HB1.out _).size); have HB2 := Lib.hid (below_then (below_alloc HB1.out _) (below_alloc HB1.out _).size hB); have c0 : w2.cell? ⟨w1.heap.size, 0, none⟩ = some (.int .i64 0) := (blk_cell HG2.out 0).trans rfl; have c1 : w2.cell? ⟨w1.heap.size, 1, none⟩ = some (.int .i64 0) := (blk_cell HG2.out 1).trans rfl; have z0 := blk_frozen HG2.out 0; have z1 := blk_frozen HG2.out 1; have HF5 := Lib.hid (blk_far (blk_far HF2.out (p := ⟨w1.heap.size, 0, none⟩) (Nat.ne_of_lt hszz) (.int .i64 0)) (p := ⟨w1.heap.size, 1, none⟩) (Nat.ne_of_lt hszz) (.int .i64 0)); have HB5 := Lib.hid (below_set (below_set HB2.out (Nat.le_of_lt hszz) (j := 0) (v := .int .i64 0)) (Nat.le_of_lt hszz) (j := 1) (v := .int .i64 0)); have HP5 := Lib.hid ((HO2.out.set_ HG2.out (by decide) 0 (.int .i64 0)).set_ (blk_set HG2.out 0 _) (by decide) 1 (.int .i64 0)); have HSZ5 : Hid (w.heap.size ≤ ((w2.setCell ⟨w1.heap.size, 0, none⟩ (.int .i64 0)).setCell ⟨w1.heap.size, 1, none⟩ (.int .i64 0)).heap.size) := Lib.hid HB5.out.size; clear hO hB)))
    have HO9 : Hid (ORow .u8 5 ((w2.setCell ⟨w1.heap.size, 0, none⟩ (.int .i64 0)).setCell ⟨w1.heap.size, 1, none⟩ (.int .i64 0)) w.heap.size (.slice none 0 0) (bomV f)) := Lib.hid (by rw [HBM.out]; exact ORow.nil _ _ _ _)
    have HF9 := HF5
    have HB9 := HB5
    have HP9 := HP5
    go_loopw [9, 10, 42] (fun s9 s10 s42 wr => ∃ (acc : List Int) (at_ n : Nat), n ≤ ps.length ∧ s42 = .int .i64 n ∧ s10 = .int .i64 at_ ∧ at_ ≤ 4 * n ∧ Hid (ORow .u8 5 wr w.heap.size s9 (bomV f ++ acc)) ∧ Hid (wr.heap[w.heap.size]? = some (.cells #[.int .i64 0, .int .i64 0] 26 (0, 0))) ∧ Hid (Below w.heap.size w wr) ∧ Hid (ORow .i32 21 wr w.heap.size (.slice A2 ps.length c2) ps) ∧ Hid (encF f ps = joinD acc at_ (encF f (ps.drop n))) ∧ Hid (acc.length ≤ 4 * n)) (fun _ _ s42 _ => ps.length - (intOf s42).toNat)
    case atStart => exact ⟨[], 0, 0, Nat.zero_le _, rfl, rfl, Nat.le_refl _, Lib.hid (by rw [List.append_nil]; exact HO9.out), HF9, HB9, HP9, Lib.hid (by simp [joinD]), Lib.hid (Nat.zero_le _)⟩
    case round =>
      obtain ⟨acc, at_, n, hn, rfl, rfl, hat, HO, HF, HB, HPS, HDD, HA⟩ := hrel
      have HW : Hid (w.heap.size ≤ wr.heap.size) := Lib.hid HB.out.size
      have HBL : Hid ((bomV f).length ≤ 2) := Lib.hid (by unfold bomV; split <;> simp)
      by_cases hlt : n < ps.length
      · obtain ⟨ad, hA2, hcell⟩ := (own_reads' HPS.out).at_ (n : Int) (by omega) (by omega)
        subst hA2
        simp only [Int.toNat_natCast] at hcell
        have HEX : Hid (ps.drop n = rd ps (n : Int) :: ps.drop (n + 1)) := Lib.hid (by rw [rd_lt ps n hlt]; exact List.drop_eq_getElem_cons hlt)
        have HPT : Hid (isPt (rd ps (n : Int)) = true) := Lib.hid (by rw [rd_lt ps n hlt]; exact HALL.out _ (List.getElem_mem hlt))
        generalize rd ps (n : Int) = p at *
        have hlen : (bomV f ++ acc).length ≤ 17592186044416 := by have := HA.out; have := HBL.out; rw [List.length_append]; omega
        rcases hwv : writeV f p with _ | bs
        · have HCW := Lib.hid (fun v0 => write_any_none f p v0 wr hwv)
          unfold WNone at HCW
          have HV2 : Hid (V = ([], (at_ : Int), 10)) := Lib.hid (by
            rw [HD.out]
            have h2 := HDD.out
            rw [HEX.out, encF_none hwv] at h2
            simp [resE, h2, joinD])
          clear hwv hlen
          go_wp2_with (first
            | (go_at_call 27; ((with_reducible refine (HCW.out _).mono ?_); rintro e w4 ⟨rfl, hB4⟩; have HF4 := Lib.hid (blk_below HF.out hB4); have HB4 := Lib.hid (below_then HB.out HW.out hB4); have c0 : w4.cell? ⟨w.heap.size, 0, none⟩ = some (.int .i64 0) := (blk_cell HF4.out 0).trans rfl; have c1 : w4.cell? ⟨w.heap.size, 1, none⟩ = some (.int .i64 0) := (blk_cell HF4.out 1).trans rfl; have z0 := blk_frozen HF4.out 0; have z1 := blk_frozen HF4.out 1; clear hB4)))
          have HF8 := blk_set (blk_set HF4.out 0 (.int .i64 (at_ : Int))) 1 (.int .i64 10)
          refine bodyPost_ret (results_tc rfl _ _ _ _ _ _ _ rfl HF8 Try.underlying26 rfl (by kernel_rfl)) rfl ?_
          rw [HV2.out]
          exact ⟨_, rfl, ORow.nil _ _ _ _, below_set (below_set HB4.out (Nat.le_refl _)) (Nat.le_refl _)⟩
        · have HCW := Lib.hid (write_any f p w.heap.size _ (bomV f ++ acc) wr HPT.out HO.out HW.out hlen hwv)
          unfold WSome at HCW
          have HD2 : Hid (encF f ps = joinD (acc ++ bs) (at_ + (putB p).length) (encF f (ps.drop (n + 1)))) := Lib.hid (by rw [HDD.out, HEX.out, encF_some hwv, joinD_joinD])
          have HBS := Lib.hid (writeV_len hwv)
          have HPB := Lib.hid (putB_len p)
          have HCP := Lib.hid (fun W => put_ok p W HPT.out)
          clear hwv hlen HDD HEX
          generalize putB p = pb at *
          have hpb : pb.length ≤ 4 := HPB.out
          go_wp2_with (first
            | (go_at_call 27; ((with_reducible refine HCW.out.mono ?_); rintro e w4 ⟨v4, rfl, hPT4⟩; have HO4 := Lib.hid hPT4.own; have HF4 := Lib.hid (hPT4.blk HO.out HF.out (by decide)); have HP4 := Lib.hid (hPT4.row HO.out HPS.out); have HB4 : Hid (Below w.heap.size w w4) := Lib.hid (HB.out.trans hPT4.bel); have HW4 : Hid (w.heap.size ≤ w4.heap.size) := Lib.hid HB4.out.size; clear hPT4))
            | (go_at_call 28; ((with_reducible refine (HCP.out _).mono ?_); rintro e w5 ⟨v5, rfl, hO5, hB5⟩; obtain ⟨A5, c5, rfl, _, _⟩ := hO5.reads; have HO5 := Lib.hid (HO4.out.below hB5); have HF5 := Lib.hid (blk_below HF4.out hB5); have HP5 := Lib.hid (HP4.out.below hB5); have HB5 := Lib.hid (below_then HB4.out HW4.out hB5); clear hO5 hB5)))
          go_roundw
          case rel => exact ⟨acc ++ bs, at_ + pb.length, n + 1, hlt, by go_num, by go_num, by omega, Lib.hid (by rw [← List.append_assoc]; exact HO5.out), HF5, HB5, HP5, HD2, Lib.hid (by have := HA.out; have := HBS.out; simp; omega)⟩
          case measure => simp [intOf]; omega
      · have hnl : n = ps.length := by omega
        have HV2 : Hid (V = (bomV f ++ acc, 0, 0)) := Lib.hid (by
          rw [HD.out]
          have h2 := HDD.out
          rw [hnl, List.drop_length, encF_nil] at h2
          simp [resE, h2, joinD])
        have c0 : wr.cell? ⟨w.heap.size, 0, none⟩ = some (.int .i64 0) := (blk_cell HF.out 0).trans rfl
        have c1 : wr.cell? ⟨w.heap.size, 1, none⟩ = some (.int .i64 0) := (blk_cell HF.out 1).trans rfl
        have z0 := blk_frozen HF.out 0
        have z1 := blk_frozen HF.out 1
        clear hnl
        go_wp2
        have HF1 := blk_set (blk_set HF.out 0 (.int .i64 0)) 1 (.int .i64 0)
        refine bodyPost_ret (results_tc rfl _ _ _ _ _ _ _ rfl HF1 Try.underlying26 rfl (by kernel_rfl)) rfl ?_
        rw [HV2.out]
        exact ⟨_, rfl, (HO.out.set_ HF.out (by decide) 0 _).set_ (blk_set HF.out 0 _) (by decide) 1 _, below_set (below_set HB.out (Nat.le_refl _)) (Nat.le_refl _)⟩
theorem encode_any (s : ByteArray) (A : Option Addr) (l : List Int) (c : Nat) (w : World) (hr : ReadsInt w .u8 A l.length l) (hby : Bytes l) (hc : l.length ≤ c) (hs : s.size ≤ 9223372036854775807) (hl : l.length ≤ 1048576) :
    Calls Try.prog 14 #[.string s, .slice A l.length c] w (TxtPost w (encodeV s l)) := by
  by_cases hf : formV s = 0
  · exact encode_no s A l c w hs hl hf
  · by_cases hcd : (ptsV l).2.2 = 0
    · exact encode_main s A l c w hr hby hc hs hl hf hcd
    · exact encode_bad s A l c w hr hby hc hs hl hf hcd
end Go.Proofs.Ytpbgpbblbohmgaa
