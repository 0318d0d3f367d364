/- charset: points, Decode. -/
import Derived.Test.YtpbgpbblbohmgaaChD3
namespace Go.Proofs.Ytpbgpbblbohmgaa
open Go.RowKit Go.Proofs.YtpbgpbblbohmgaaW.PrintWords

def pointsV (f : Int) (l : List Int) : List Int × Int × Int :=
  if f = 2 then ptsV l else if f = 6 then resV (markV l) else if f = 7 then resV (dbl false l.length l) else if f = 8 then resV (dbl true l.length l) else resV (sgl f l)
set_option maxRecDepth 100000 in
set_option maxHeartbeats 1000000 in
theorem points_utf (A : Option Addr) (l : List Int) (c : Nat) (w : World) (hr : ReadsInt w .u8 A l.length l) (hby : Bytes l) (hc : l.length ≤ c) (hl : l.length ≤ 35184372088832) :
    Calls Try.prog 20 #[.int .i64 2, .slice A l.length c] w (PtsPost w (ptsV l)) := by
  have HC := Lib.hid (fun W h => points_any A l c W h hby hc hl)
  have HR := Lib.hid hr
  generalize ptsV l = r at *
  clear hr hby
  go_enter Try.func20, Try.ntmps20
  go_wp2_with (first
    | (go_at_call 15; ((with_reducible refine (HC.out _ (HR.out.below (below_first _))).mono ?_); rintro e w1 ⟨v, rfl, hO, hB⟩; have HF1 := Lib.hid (blk_below (heap_alloc_new w (.cells #[.int .i64 0, .int .i64 0] 26)) hB); have HO1 := Lib.hid (ORow.lower (base' := w.heap.size) hO (below_first _).size); have HB1 := Lib.hid (below_then (below_first _) (below_first _).size hB); have c0 : w1.cell? ⟨w.heap.size, 0, none⟩ = some (.int .i64 0) := (blk_cell HF1.out 0).trans rfl; have c1 : w1.cell? ⟨w.heap.size, 1, none⟩ = some (.int .i64 0) := (blk_cell HF1.out 1).trans rfl; have z0 := blk_frozen HF1.out 0; have z1 := blk_frozen HF1.out 1; clear hO hB)))
  have HF2 := blk_set (blk_set HF1.out 0 (.int .i64 r.2.1)) 1 (.int .i64 r.2.2)
  refine bodyPost_ret (results_tc rfl _ _ _ _ _ _ _ rfl HF2 Try.underlying26 rfl (by kernel_rfl)) rfl ?_
  exact ⟨_, rfl, (HO1.out.set_ HF1.out (by decide) 0 _).set_ (blk_set HF1.out 0 _) (by decide) 1 _, below_set (below_set HB1.out (Nat.le_refl _)) (Nat.le_refl _)⟩
set_option maxRecDepth 100000 in
set_option maxHeartbeats 1000000 in
theorem points_mark (A : Option Addr) (l : List Int) (c : Nat) (w : World) (hr : ReadsInt w .u8 A l.length l) (hby : Bytes l) (hc : l.length ≤ c) (hl : l.length ≤ 35184372088832) :
    Calls Try.prog 20 #[.int .i64 6, .slice A l.length c] w (PtsPost w (resV (markV l))) := by
  have HC := Lib.hid (fun W h => marked_any A l c W h hby hc hl)
  have HR := Lib.hid hr
  generalize resV (markV l) = r at *
  clear hr hby
  go_enter Try.func20, Try.ntmps20
  go_wp2_with (first
    | (go_at_call 33; ((with_reducible refine (HC.out _ (HR.out.below (below_first _))).mono ?_); rintro e w1 ⟨v, rfl, hO, hB⟩; have HF1 := Lib.hid (blk_below (heap_alloc_new w (.cells #[.int .i64 0, .int .i64 0] 26)) hB); have HO1 := Lib.hid (ORow.lower (base' := w.heap.size) hO (below_first _).size); have HB1 := Lib.hid (below_then (below_first _) (below_first _).size hB); have c0 : w1.cell? ⟨w.heap.size, 0, none⟩ = some (.int .i64 0) := (blk_cell HF1.out 0).trans rfl; have c1 : w1.cell? ⟨w.heap.size, 1, none⟩ = some (.int .i64 0) := (blk_cell HF1.out 1).trans rfl; have z0 := blk_frozen HF1.out 0; have z1 := blk_frozen HF1.out 1; clear hO hB)))
  have HF2 := blk_set (blk_set HF1.out 0 (.int .i64 r.2.1)) 1 (.int .i64 r.2.2)
  refine bodyPost_ret (results_tc rfl _ _ _ _ _ _ _ rfl HF2 Try.underlying26 rfl (by kernel_rfl)) rfl ?_
  exact ⟨_, rfl, (HO1.out.set_ HF1.out (by decide) 0 _).set_ (blk_set HF1.out 0 _) (by decide) 1 _, below_set (below_set HB1.out (Nat.le_refl _)) (Nat.le_refl _)⟩
set_option maxRecDepth 100000 in
set_option maxHeartbeats 1000000 in
theorem points_be (A : Option Addr) (l : List Int) (c : Nat) (w : World) (hr : ReadsInt w .u8 A l.length l) (hby : Bytes l) (hc : l.length ≤ c) (hl : l.length ≤ 35184372088832) :
    Calls Try.prog 20 #[.int .i64 7, .slice A l.length c] w (PtsPost w (resV (dbl false l.length l))) := by
  have HC := Lib.hid (fun W h => double_any false A l c W h hby hc hl)
  have HR := Lib.hid hr
  generalize resV (dbl false l.length l) = r at *
  clear hr hby
  go_enter Try.func20, Try.ntmps20
  go_wp2_with (first
    | (go_at_call 34; ((with_reducible refine (HC.out _ (HR.out.below (below_first _))).mono ?_); rintro e w1 ⟨v, rfl, hO, hB⟩; have HF1 := Lib.hid (blk_below (heap_alloc_new w (.cells #[.int .i64 0, .int .i64 0] 26)) hB); have HO1 := Lib.hid (ORow.lower (base' := w.heap.size) hO (below_first _).size); have HB1 := Lib.hid (below_then (below_first _) (below_first _).size hB); have c0 : w1.cell? ⟨w.heap.size, 0, none⟩ = some (.int .i64 0) := (blk_cell HF1.out 0).trans rfl; have c1 : w1.cell? ⟨w.heap.size, 1, none⟩ = some (.int .i64 0) := (blk_cell HF1.out 1).trans rfl; have z0 := blk_frozen HF1.out 0; have z1 := blk_frozen HF1.out 1; clear hO hB)))
  have HF2 := blk_set (blk_set HF1.out 0 (.int .i64 r.2.1)) 1 (.int .i64 r.2.2)
  refine bodyPost_ret (results_tc rfl _ _ _ _ _ _ _ rfl HF2 Try.underlying26 rfl (by kernel_rfl)) rfl ?_
  exact ⟨_, rfl, (HO1.out.set_ HF1.out (by decide) 0 _).set_ (blk_set HF1.out 0 _) (by decide) 1 _, below_set (below_set HB1.out (Nat.le_refl _)) (Nat.le_refl _)⟩
set_option maxRecDepth 100000 in
set_option maxHeartbeats 1000000 in
theorem points_le (A : Option Addr) (l : List Int) (c : Nat) (w : World) (hr : ReadsInt w .u8 A l.length l) (hby : Bytes l) (hc : l.length ≤ c) (hl : l.length ≤ 35184372088832) :
    Calls Try.prog 20 #[.int .i64 8, .slice A l.length c] w (PtsPost w (resV (dbl true l.length l))) := by
  have HC := Lib.hid (fun W h => double_any true A l c W h hby hc hl)
  have HR := Lib.hid hr
  generalize resV (dbl true l.length l) = r at *
  clear hr hby
  go_enter Try.func20, Try.ntmps20
  go_wp2_with (first
    | (go_at_call 34; ((with_reducible refine (HC.out _ (HR.out.below (below_first _))).mono ?_); rintro e w1 ⟨v, rfl, hO, hB⟩; have HF1 := Lib.hid (blk_below (heap_alloc_new w (.cells #[.int .i64 0, .int .i64 0] 26)) hB); have HO1 := Lib.hid (ORow.lower (base' := w.heap.size) hO (below_first _).size); have HB1 := Lib.hid (below_then (below_first _) (below_first _).size hB); have c0 : w1.cell? ⟨w.heap.size, 0, none⟩ = some (.int .i64 0) := (blk_cell HF1.out 0).trans rfl; have c1 : w1.cell? ⟨w.heap.size, 1, none⟩ = some (.int .i64 0) := (blk_cell HF1.out 1).trans rfl; have z0 := blk_frozen HF1.out 0; have z1 := blk_frozen HF1.out 1; clear hO hB)))
  have HF2 := blk_set (blk_set HF1.out 0 (.int .i64 r.2.1)) 1 (.int .i64 r.2.2)
  refine bodyPost_ret (results_tc rfl _ _ _ _ _ _ _ rfl HF2 Try.underlying26 rfl (by kernel_rfl)) rfl ?_
  exact ⟨_, rfl, (HO1.out.set_ HF1.out (by decide) 0 _).set_ (blk_set HF1.out 0 _) (by decide) 1 _, below_set (below_set HB1.out (Nat.le_refl _)) (Nat.le_refl _)⟩
set_option maxRecDepth 100000 in
set_option maxHeartbeats 1000000 in
theorem points_one (A : Option Addr) (l : List Int) (c : Nat) (w : World) (hr : ReadsInt w .u8 A l.length l) (hby : Bytes l) (hc : l.length ≤ c) (hl : l.length ≤ 35184372088832) (f : Int) (h2 : f ≠ 2) (h6 : f ≠ 6) (h7 : f ≠ 7) (h8 : f ≠ 8) :
    Calls Try.prog 20 #[.int .i64 f, .slice A l.length c] w (PtsPost w (resV (sgl f l))) := by
  have HC := Lib.hid (fun W h => single_any f A l c W h hby hl)
  have HR := Lib.hid hr
  generalize resV (sgl f l) = r at *
  clear hr hby
  have b2 : (f == 2) = false := beq_eq_false_iff_ne.mpr h2
  have b6 : (f == 6) = false := beq_eq_false_iff_ne.mpr h6
  have b7 : (f == 7) = false := beq_eq_false_iff_ne.mpr h7
  have b8 : (f == 8) = false := beq_eq_false_iff_ne.mpr h8
  clear h2 h6 h7 h8
  go_enter Try.func20, Try.ntmps20
  go_wp2_with (first
    | (go_at_call 35; ((with_reducible refine (HC.out _ (HR.out.below (below_first _))).mono ?_); rintro e w1 ⟨v, rfl, hO, hB⟩; have HF1 := Lib.hid (blk_below (heap_alloc_new w (.cells #[.int .i64 0, .int .i64 0] 26)) hB); have HO1 := Lib.hid (ORow.lower (base' := w.heap.size) hO (below_first _).size); have HB1 := Lib.hid (below_then (below_first _) (below_first _).size hB); have c0 : w1.cell? ⟨w.heap.size, 0, none⟩ = some (.int .i64 0) := (blk_cell HF1.out 0).trans rfl; have c1 : w1.cell? ⟨w.heap.size, 1, none⟩ = some (.int .i64 0) := (blk_cell HF1.out 1).trans rfl; have z0 := blk_frozen HF1.out 0; have z1 := blk_frozen HF1.out 1; clear hO hB)))
  have HF2 := blk_set (blk_set HF1.out 0 (.int .i64 r.2.1)) 1 (.int .i64 r.2.2)
  refine bodyPost_ret (results_tc rfl _ _ _ _ _ _ _ rfl HF2 Try.underlying26 rfl (by kernel_rfl)) rfl ?_
  exact ⟨_, rfl, (HO1.out.set_ HF1.out (by decide) 0 _).set_ (blk_set HF1.out 0 _) (by decide) 1 _, below_set (below_set HB1.out (Nat.le_refl _)) (Nat.le_refl _)⟩
theorem cpoints_any (f : Int) (A : Option Addr) (l : List Int) (c : Nat) (w : World) (hr : ReadsInt w .u8 A l.length l) (hby : Bytes l) (hc : l.length ≤ c) (hl : l.length ≤ 35184372088832) :
    Calls Try.prog 20 #[.int .i64 f, .slice A l.length c] w (PtsPost w (pointsV f l)) := by
  unfold pointsV
  by_cases h2 : f = 2
  · rw [if_pos h2, h2]; exact points_utf A l c w hr hby hc hl
  · rw [if_neg h2]
    by_cases h6 : f = 6
    · rw [if_pos h6, h6]; exact points_mark A l c w hr hby hc hl
    · rw [if_neg h6]
      by_cases h7 : f = 7
      · rw [if_pos h7, h7]; exact points_be A l c w hr hby hc hl
      · rw [if_neg h7]
        by_cases h8 : f = 8
        · rw [if_pos h8, h8]; exact points_le A l c w hr hby hc hl
        · rw [if_neg h8]; exact points_one A l c w hr hby hc hl f h2 h6 h7 h8
def decodeV (s : ByteArray) (l : List Int) : List Int × Int × Int :=
  if formV s = 0 then ([], 0, 143) else if (pointsV (formV s) l).2.2 = 0 then txtV (pointsV (formV s) l).1 else ([], (pointsV (formV s) l).2.1, (pointsV (formV s) l).2.2)
end Go.Proofs.Ytpbgpbblbohmgaa
