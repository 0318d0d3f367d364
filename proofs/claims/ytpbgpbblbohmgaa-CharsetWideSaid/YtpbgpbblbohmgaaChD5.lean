/- charset: Decode. -/
import Derived.Test.YtpbgpbblbohmgaaChD4
import Derived.RegionTactic
import Derived.BigRegion
namespace Go.Proofs.Ytpbgpbblbohmgaa
open Go.RowKit Go.Proofs.YtpbgpbblbohmgaaW.PrintWords

theorem dec_len : ∀ (f : Nat) (l : List Int), (dec f l).1.length ≤ l.length
  | 0, l => by simp [dec]
  | f + 1, l => by
    rw [dec]
    have ih := dec_len f (l.drop (nextV l).2.1)
    have hn := nextV_len l
    split
    · simp
    · split
      · rename_i h1 h2
        have := hn.2.1 h2
        simp only [List.length_cons]
        rw [List.length_drop] at ih
        omega
      · simp
theorem sgl_len (f : Int) : ∀ l : List Int, (sgl f l).1.length ≤ l.length
  | [] => by simp [sgl]
  | c :: t => by
    rw [sgl]
    have ih := sgl_len f t
    split
    · simp
    · simp only [List.length_cons]; omega
theorem dbl_len (b : Bool) : ∀ (f : Nat) (l : List Int), (dbl b f l).1.length ≤ l.length
  | 0, l => by simp [dbl]
  | f + 1, l => by
    have ih2 := dbl_len b f (l.drop 2)
    have ih4 := dbl_len b f (l.drop 4)
    rw [List.length_drop] at ih2 ih4
    rw [dbl_step]
    repeat' split
    all_goals (simp [joinD]; try omega)
theorem resV_len {d : List Int × Option Nat} {n : Nat} (h : d.1.length ≤ n) : (resV d).1.length ≤ n := by
  rcases d with ⟨xs, _ | m⟩
  · exact h
  · simp [resV]
theorem markV_len (l : List Int) : (markV l).1.length ≤ l.length := by
  have h1 := dbl_len false (l.drop 2).length (l.drop 2)
  have h2 := dbl_len true (l.drop 2).length (l.drop 2)
  have h3 := dbl_len false l.length l
  have h4 : (l.drop 2).length ≤ l.length := by rw [List.length_drop]; omega
  unfold markV
  repeat' split
  · simp [joinD] at h1 ⊢; omega
  · simp [joinD] at h2 ⊢; omega
  · exact h3
theorem ptsV_res (l : List Int) : ptsV l = resV (dec l.length l) := rfl
theorem pointsV_len (f : Int) (l : List Int) : (pointsV f l).1.length ≤ l.length := by
  unfold pointsV
  repeat' split
  · exact resV_len (dec_len _ _)
  · exact resV_len (markV_len _)
  · exact resV_len (dbl_len _ _ _)
  · exact resV_len (dbl_len _ _ _)
  · exact resV_len (sgl_len _ _)
set_option maxRecDepth 100000 in
set_option maxHeartbeats 1000000 in
theorem decode_no (s : ByteArray) (A : Option Addr) (l : List Int) (c : Nat) (w : World) (hs : s.size ≤ 9223372036854775807) (hl : l.length ≤ 1048576) (hf : formV s = 0) :
    Calls Try.prog 10 #[.string s, .slice A l.length c] w (TxtPost w (decodeV s l)) := by
  have HD : Hid (decodeV s l = ([], 0, 143)) := Lib.hid (by rw [decodeV, if_pos hf])
  have HC := Lib.hid (fun W => fits_any s A l.length c W hs hl)
  have HE : Hid (fitsE s = 143) := Lib.hid (by rw [fitsE, if_pos hf])
  unfold FitsPost at HC
  rw [HE.out, hf] at HC
  clear hf
  go_enter Try.func10, Try.ntmps10
  go_wp2_with (first
    | (go_at_call 19; ((with_reducible refine (HC.out _).mono ?_); rintro e w1 ⟨rfl, hB⟩; have HF1 := Lib.hid (blk_below (heap_alloc_new w (.cells #[.int .i64 0, .int .i64 0] 26)) hB); have HB1 := Lib.hid (below_then (below_first _) (below_first _).size hB); have c0 : w1.cell? ⟨w.heap.size, 0, none⟩ = some (.int .i64 0) := (blk_cell HF1.out 0).trans rfl; have c1 : w1.cell? ⟨w.heap.size, 1, none⟩ = some (.int .i64 0) := (blk_cell HF1.out 1).trans rfl; have z0 := blk_frozen HF1.out 0; have z1 := blk_frozen HF1.out 1; have hszz : w.heap.size < w1.heap.size := blk_lt HF1.out; clear hB)))
  go_region
  go_wp2
  have HF2 := blk_below (blk_set (blk_set HF1.out 0 (.int .i64 0)) 1 (.int .i64 143)) (below_first (.cells #[.int .i64 0, .int .i64 143] 26))
  refine bodyPost_ret (results_tc rfl _ _ _ _ _ _ _ rfl HF2 Try.underlying26 rfl (by kernel_rfl)) rfl ?_
  rw [HD.out]
  exact ⟨_, rfl, ORow.nil _ _ _ _, b_drew (below_alloc (below_set (below_set HB1.out (Nat.le_refl _)) (Nat.le_refl _)) _)⟩
set_option maxRecDepth 100000 in
set_option maxHeartbeats 1000000 in
theorem decode_yes (s : ByteArray) (A : Option Addr) (l : List Int) (c : Nat) (w : World) (hr : ReadsInt w .u8 A l.length l) (hby : Bytes l) (hc : l.length ≤ c) (hs : s.size ≤ 9223372036854775807) (hl : l.length ≤ 1048576) (hf : formV s ≠ 0) :
    Calls Try.prog 10 #[.string s, .slice A l.length c] w (TxtPost w (decodeV s l)) := by
  have HC := Lib.hid (fun W => fits_any s A l.length c W hs hl)
  have HE : Hid (fitsE s = 0) := Lib.hid (by rw [fitsE, if_neg hf])
  have HP := Lib.hid (fun W h => cpoints_any (formV s) A l c W h hby hc (by omega))
  have HL := Lib.hid (pointsV_len (formV s) l)
  have HD : Hid (decodeV s l = if (pointsV (formV s) l).2.2 = 0 then txtV (pointsV (formV s) l).1 else ([], (pointsV (formV s) l).2.1, (pointsV (formV s) l).2.2)) := Lib.hid (by rw [decodeV, if_neg hf])
  have HR := Lib.hid hr
  unfold FitsPost at HC
  rw [HE.out] at HC
  generalize formV s = f at *
  generalize pointsV f l = r at *
  obtain ⟨ps, at_, cd⟩ := r
  have HLL := Lib.hid hl
  clear hf hr hby hl
  by_cases hcd : cd = 0
  · have HCD := Lib.hid hcd
    simp only [hcd, if_true] at HD HP HL
    clear hcd
    have HT := Lib.hid (fun W A2 c2 h => text_any A2 ps c2 W h (by have := HL.out; have := HLL.out; omega))
    go_enter Try.func10, Try.ntmps10
    go_wp2_with (first
      | (go_at_call 19; ((with_reducible refine (HC.out _).mono ?_); rintro e w1 ⟨rfl, hB⟩; have HF1 := Lib.hid (blk_below (heap_alloc_new w (.cells #[.int .i64 0, .int .i64 0] 26)) hB); have HB1 := Lib.hid (below_then (below_first _) (below_first _).size hB); have hszz : w.heap.size < w1.heap.size := blk_lt HF1.out; clear hB))
      | (go_at_call 20; ((with_reducible refine (HP.out _ (HR.out.below (below_alloc HB1.out _))).mono ?_); rintro e w2 ⟨v, rfl, hO, hB⟩; have HG2 := Lib.hid (blk_below (heap_alloc_new w1 (.cells #[.int .i64 0, .int .i64 0] 26)) hB); have HF2 := Lib.hid (blk_below (blk_below HF1.out (below_first (.cells #[.int .i64 0, .int .i64 0] 26))) hB); have HO2 := Lib.hid (ORow.lower (base' := w.heap.size) hO (below_alloc HB1.out _).size); have HB2 := Lib.hid (below_then (below_alloc HB1.out _) (below_alloc HB1.out _).size hB); have c0 : w2.cell? ⟨w1.heap.size, 0, none⟩ = some (.int .i64 0) := (blk_cell HG2.out 0).trans rfl; have c1 : w2.cell? ⟨w1.heap.size, 1, none⟩ = some (.int .i64 0) := (blk_cell HG2.out 1).trans rfl; have z0 := blk_frozen HG2.out 0; have z1 := blk_frozen HG2.out 1; obtain ⟨A2, c2, rfl, hc2, hR2⟩ := (HO2.out.set_ HG2.out (by decide) 0 (.int .i64 at_)).set_ (blk_set HG2.out 0 _) (by decide) 1 (.int .i64 0) |>.reads; have HR2 := Lib.hid hR2; clear hO hB hR2))
      | (go_at_call 21; ((with_reducible refine (HT.out _ _ _ HR2.out).mono ?_); rintro e w3 ⟨v3, rfl, hO3, hB3⟩; have HF3 := Lib.hid (blk_below (blk_far (blk_far HF2.out (p := ⟨w1.heap.size, 0, none⟩) (Nat.ne_of_lt hszz) (.int .i64 at_)) (p := ⟨w1.heap.size, 1, none⟩) (Nat.ne_of_lt hszz) (.int .i64 0)) hB3); have hszb : w.heap.size ≤ ((w2.setCell ⟨w1.heap.size, 0, none⟩ (.int .i64 at_)).setCell ⟨w1.heap.size, 1, none⟩ (.int .i64 0)).heap.size := Nat.le_trans HB2.out.size (by simp); have HO3 := Lib.hid (ORow.lower (base' := w.heap.size) hO3 hszb); have HB3 := Lib.hid (below_then (below_set (below_set HB2.out (Nat.le_of_lt hszz)) (Nat.le_of_lt hszz)) hszb hB3); have c0 : w3.cell? ⟨w.heap.size, 0, none⟩ = some (.int .i64 0) := (blk_cell HF3.out 0).trans rfl; have c1 : w3.cell? ⟨w.heap.size, 1, none⟩ = some (.int .i64 0) := (blk_cell HF3.out 1).trans rfl; have z0 := blk_frozen HF3.out 0; have z1 := blk_frozen HF3.out 1; clear hO3 hB3 hszb)))
    generalize txtV ps = r at *
    have HF4 := blk_set (blk_set HF3.out 0 (.int .i64 r.2.1)) 1 (.int .i64 r.2.2)
    refine bodyPost_ret (results_tc rfl _ _ _ _ _ _ _ rfl HF4 Try.underlying26 rfl (by kernel_rfl)) rfl ?_
    rw [HD.out]
    exact ⟨_, rfl, (HO3.out.set_ HF3.out (by decide) 0 _).set_ (blk_set HF3.out 0 _) (by decide) 1 _, below_set (below_set HB3.out (Nat.le_refl _)) (Nat.le_refl _)⟩
  · have b0 : (cd != 0) = true := bne_iff_ne.mpr hcd
    have b1 : (cd == 0) = false := beq_eq_false_iff_ne.mpr hcd
    have HD2 : Hid (decodeV s l = ([], at_, cd)) := Lib.hid (by rw [HD.out, if_neg hcd])
    clear HD hcd
    go_enter Try.func10, Try.ntmps10
    go_wp2_with (first
      | (go_at_call 19; ((with_reducible refine (HC.out _).mono ?_); rintro e w1 ⟨rfl, hB⟩; have HF1 := Lib.hid (blk_below (heap_alloc_new w (.cells #[.int .i64 0, .int .i64 0] 26)) hB); have HB1 := Lib.hid (below_then (below_first _) (below_first _).size hB); have hszz : w.heap.size < w1.heap.size := blk_lt HF1.out; clear hB))
      | (go_at_call 20; ((with_reducible refine (HP.out _ (HR.out.below (below_alloc HB1.out _))).mono ?_); rintro e w2 ⟨v, rfl, hO, hB⟩; have HG2 := Lib.hid (blk_below (heap_alloc_new w1 (.cells #[.int .i64 0, .int .i64 0] 26)) hB); have HF2 := Lib.hid (blk_below (blk_below HF1.out (below_first (.cells #[.int .i64 0, .int .i64 0] 26))) hB); have HB2 := Lib.hid (below_then (below_alloc HB1.out _) (below_alloc HB1.out _).size hB); have c0 : w2.cell? ⟨w1.heap.size, 0, none⟩ = some (.int .i64 0) := (blk_cell HG2.out 0).trans rfl; have c1 : w2.cell? ⟨w1.heap.size, 1, none⟩ = some (.int .i64 0) := (blk_cell HG2.out 1).trans rfl; have z0 := blk_frozen HG2.out 0; have z1 := blk_frozen HG2.out 1; clear hO hB)))
    have HG5 := Lib.hid (blk_set (blk_set HG2.out 0 (.int .i64 at_)) 1 (.int .i64 cd))
    have HF5 := Lib.hid (blk_far (blk_far HF2.out (p := ⟨w1.heap.size, 0, none⟩) (Nat.ne_of_lt hszz) (.int .i64 at_)) (p := ⟨w1.heap.size, 1, none⟩) (Nat.ne_of_lt hszz) (.int .i64 cd))
    have HB5 := Lib.hid (below_set (below_set HB2.out (Nat.le_of_lt hszz) (j := 0) (v := .int .i64 at_)) (Nat.le_of_lt hszz) (j := 1) (v := .int .i64 cd))
    clear c0 c1 z0 z1
    generalize (w2.setCell ⟨w1.heap.size, 0, none⟩ (.int .i64 at_)).setCell ⟨w1.heap.size, 1, none⟩ (.int .i64 cd) = w5 at *
    have c0 : w5.cell? ⟨w1.heap.size, 0, none⟩ = some (.int .i64 at_) := (blk_cell HG5.out 0).trans rfl
    have c1 : w5.cell? ⟨w1.heap.size, 1, none⟩ = some (.int .i64 cd) := (blk_cell HG5.out 1).trans rfl
    have d0 : w5.cell? ⟨w.heap.size, 0, none⟩ = some (.int .i64 0) := (blk_cell HF5.out 0).trans rfl
    have d1 : w5.cell? ⟨w.heap.size, 1, none⟩ = some (.int .i64 0) := (blk_cell HF5.out 1).trans rfl
    have z0 := blk_frozen HF5.out 0
    have z1 := blk_frozen HF5.out 1
    clear hszz
    go_region
    go_wp2
    have HF6 := blk_set (blk_set HF5.out 0 (.int .i64 at_)) 1 (.int .i64 cd)
    refine bodyPost_ret (results_tc rfl _ _ _ _ _ _ _ rfl HF6 Try.underlying26 rfl (by kernel_rfl)) rfl ?_
    rw [HD2.out]
    exact ⟨_, rfl, ORow.nil _ _ _ _, b_drew (below_set (below_set HB5.out (Nat.le_refl _)) (Nat.le_refl _))⟩
theorem decode_any (s : ByteArray) (A : Option Addr) (l : List Int) (c : Nat) (w : World) (hr : ReadsInt w .u8 A l.length l) (hby : Bytes l) (hc : l.length ≤ c) (hs : s.size ≤ 9223372036854775807) (hl : l.length ≤ 1048576) :
    Calls Try.prog 10 #[.string s, .slice A l.length c] w (TxtPost w (decodeV s l)) := by
  by_cases hf : formV s = 0
  · exact decode_no s A l c w hs hl hf
  · exact decode_yes s A l c w hr hby hc hs hl hf
end Go.Proofs.Ytpbgpbblbohmgaa
