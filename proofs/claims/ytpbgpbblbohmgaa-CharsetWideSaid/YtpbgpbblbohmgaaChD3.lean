/- charset: marked. -/
import Derived.Test.YtpbgpbblbohmgaaChD2
import Derived.RegionTactic
import Derived.BigRegion
namespace Go.Proofs.Ytpbgpbblbohmgaa
open Go.RowKit Go.Proofs.YtpbgpbblbohmgaaW.PrintWords

def markV (l : List Int) : List Int × Option Nat :=
  if 2 ≤ l.length ∧ unitV l false = 65279 then joinD [] 2 (dbl false (l.drop 2).length (l.drop 2)) else
  if 2 ≤ l.length ∧ unitV l false = 65534 then joinD [] 2 (dbl true (l.drop 2).length (l.drop 2)) else dbl false l.length l
def shiftR (r : List Int × Int × Int) (m : Int) : List Int × Int × Int := if r.2.2 = 0 then r else (r.1, r.2.1 + m, r.2.2)
theorem shiftR_zero (r : List Int × Int × Int) : shiftR r 0 = r := by
  unfold shiftR; split
  · rfl
  · rw [Int.add_zero]
theorem resV_join (d : List Int × Option Nat) (m : Nat) : resV (joinD [] m d) = shiftR (resV d) m := by
  rcases d with ⟨xs, _ | n⟩ <;> simp [resV, joinD, shiftR]
theorem resV_code (d : List Int × Option Nat) : (resV d).2.2 = 0 ∨ (resV d).2.2 = 20 := by
  rcases d with ⟨xs, _ | n⟩ <;> simp [resV]
theorem dbl_at (b : Bool) : ∀ (f : Nat) (l : List Int) (n : Nat), (dbl b f l).2 = some n → n ≤ l.length
  | 0, l, n, h => by simp [dbl] at h
  | f + 1, l, n, h => by
    have ih := dbl_at b f
    rw [dbl_step] at h
    by_cases c0 : l.length = 0
    · rw [if_pos c0] at h; cases h
    · rw [if_neg c0] at h
      by_cases c1 : l.length < 2
      · rw [if_pos c1] at h; injection h with h; omega
      · rw [if_neg c1] at h
        by_cases c2 : unitV l b < 55296 ∨ 57343 < unitV l b
        · rw [if_pos c2] at h
          simp only [joinD, Option.map_eq_some_iff] at h
          obtain ⟨m, hm, rfl⟩ := h
          have := ih _ _ hm
          rw [List.length_drop] at this
          omega
        · rw [if_neg c2] at h
          by_cases c3 : 56320 ≤ unitV l b ∨ l.length < 4
          · rw [if_pos c3] at h; injection h with h; omega
          · rw [if_neg c3] at h
            by_cases c4 : unitV (l.drop 2) b < 56320 ∨ 57343 < unitV (l.drop 2) b
            · rw [if_pos c4] at h; injection h with h; omega
            · rw [if_neg c4] at h
              simp only [joinD, Option.map_eq_some_iff] at h
              obtain ⟨m, hm, rfl⟩ := h
              have := ih _ _ hm
              rw [List.length_drop] at this
              omega
theorem resV_at {d : List Int × Option Nat} {L : Nat} (h : ∀ n, d.2 = some n → n ≤ L) : 0 ≤ (resV d).2.1 ∧ (resV d).2.1 ≤ L := by
  rcases d with ⟨xs, _ | n⟩
  · simp [resV]
  · have := h n rfl
    simp only [resV]; omega
theorem heap_alloc_new' (w : World) (o : Obj) (g : Nat) (h : g = w.heap.size) : (w.alloc o).heap[g]? = some o := h ▸ heap_alloc_new w o
set_option maxRecDepth 100000 in
set_option maxHeartbeats 4000000 in
theorem marked_short (A : Option Addr) (l : List Int) (c : Nat) (w : World) (hr : ReadsInt w .u8 A l.length l) (hby : Bytes l) (hc : l.length ≤ c) (hl : l.length ≤ 35184372088832) (h2 : l.length < 2) :
    Calls Try.prog 33 #[.slice A l.length c] w (PtsPost w (shiftR (resV (dbl false (l.drop 0).length (l.drop 0))) 0)) := by
  have HR := Lib.hid hr
  have HBY := Lib.hid hby
  obtain ⟨i0, hi0, _, hsz, _⟩ := info_parts infoU8
  obtain ⟨A1, hcut0, hA1, hC1⟩ := print_drop_of (P := Try.prog) (Value.int .u8) (0 : Int) 22 5 .i64 Try.underlying22 hi0 hsz A c l (0 : Int) (by omega) (by omega) hc
  rw [show ((0 : Int)).toNat = 0 from rfl] at hcut0 hA1 hC1
  try simp only [Nat.sub_zero] at hcut0 hC1
  have HR1 : Hid (∀ W, ReadsInt W .u8 A l.length l → ReadsInt W .u8 A1 (l.drop 0).length (l.drop 0)) := Lib.hid (fun W h => hA1 W h)
  have hq0 : (l.drop 0).length ≤ l.length := by rw [List.length_drop]; omega
  have HDC := Lib.hid (fun W h => double_any false A1 (l.drop 0) _ W h (hby.drop 0) hC1 (by omega))
  have hcd := resV_code (dbl false (l.drop 0).length (l.drop 0))
  have hat := resV_at (dbl_at false (l.drop 0).length (l.drop 0))
  have d1 : decide (2 ≤ (l.length : Int)) = false := decide_eq_false (by omega)
  have d2 : ¬ (2 : Int) ≤ (l.length : Int) := by omega
  clear h2
  clear hA1 hr hi0 hsz hby
  generalize (l.drop 0) = q at *
  have hat1 : (resV (dbl false q.length q)).2.1 ≤ 35184372088832 := by omega
  have hat0 := hat.1
  clear hat hq0
  rcases hrs : resV (dbl false q.length q) with ⟨xs, at_, cd⟩
  rw [hrs] at HDC hcd hat0 hat1
  simp only at hcd hat0 hat1
  clear hrs
  rcases hcd with rfl | rfl
  all_goals
    go_enter Try.func33, Try.ntmps33
    go_wp2_with (first
      | (go_at_call 34; ((with_reducible refine (HDC.out _ (HR1.out _ (HR.out.below (below_first _)))).mono ?_); rintro e w1 ⟨v, rfl, hO, hB⟩; have HF1 := Lib.hid (blk_below (heap_alloc_new w (.cells #[.int .i64 0, .int .i64 0] 26)) hB); have HO1 := Lib.hid (ORow.lower (base' := w.heap.size) hO ((below_first _).size)); have HB1 := Lib.hid (below_then (below_first _) ((below_first _).size) hB); have c0 : w1.cell? ⟨w.heap.size, 0, none⟩ = some (.int .i64 0) := (blk_cell HF1.out 0).trans rfl; have c1 : w1.cell? ⟨w.heap.size, 1, none⟩ = some (.int .i64 0) := (blk_cell HF1.out 1).trans rfl; have z0 := blk_frozen HF1.out 0; have z1 := blk_frozen HF1.out 1; have hszz : w.heap.size < w1.heap.size := blk_lt HF1.out; clear hO hB)))
    go_region
    go_wp2
  · have HF2 := blk_below (blk_set (blk_set HF1.out 0 (.int .i64 at_)) 1 (.int .i64 0)) (below_first (.cells #[.int .i64 at_, .int .i64 0] 26))
    refine bodyPost_ret (results_tc rfl _ _ _ _ _ _ _ rfl HF2 Try.underlying26 rfl (by kernel_rfl)) rfl ?_
    exact ⟨_, rfl, ORow.drew (((HO1.out.set_ HF1.out (by decide) 0 _).set_ (blk_set HF1.out 0 _) (by decide) 1 _).alloc _), b_drew (below_alloc (below_set (below_set HB1.out (Nat.le_refl _)) (Nat.le_refl _)) _)⟩
  · have HF2 := blk_below (blk_set (blk_set HF1.out 0 (.int .i64 (at_))) 1 (.int .i64 20)) (below_first (.cells #[.int .i64 (at_), .int .i64 20] 26))
    refine bodyPost_ret (results_tc rfl _ _ _ _ _ _ _ rfl HF2 Try.underlying26 rfl (by kernel_rfl)) rfl ?_
    exact ⟨_, by simp [shiftR], ORow.drew (((HO1.out.set_ HF1.out (by decide) 0 _).set_ (blk_set HF1.out 0 _) (by decide) 1 _).alloc _), b_drew (below_alloc (below_set (below_set HB1.out (Nat.le_refl _)) (Nat.le_refl _)) _)⟩
set_option maxRecDepth 100000 in
set_option maxHeartbeats 4000000 in
theorem marked_big (A : Option Addr) (l : List Int) (c : Nat) (w : World) (hr : ReadsInt w .u8 A l.length l) (hby : Bytes l) (hc : l.length ≤ c) (hl : l.length ≤ 35184372088832) (h2 : 2 ≤ l.length) (hu : unitV l false = 65279) :
    Calls Try.prog 33 #[.slice A l.length c] w (PtsPost w (shiftR (resV (dbl false (l.drop 2).length (l.drop 2))) 2)) := by
  have HR := Lib.hid hr
  have HBY := Lib.hid hby
  obtain ⟨i0, hi0, _, hsz, _⟩ := info_parts infoU8
  obtain ⟨A1, hcut0, hA1, hC1⟩ := print_drop_of (P := Try.prog) (Value.int .u8) (0 : Int) 22 5 .i64 Try.underlying22 hi0 hsz A c l (2 : Int) (by omega) (by omega) hc
  rw [show ((2 : Int)).toNat = 2 from rfl] at hcut0 hA1 hC1
  try simp only [Nat.sub_zero] at hcut0 hC1
  have HR1 : Hid (∀ W, ReadsInt W .u8 A l.length l → ReadsInt W .u8 A1 (l.drop 2).length (l.drop 2)) := Lib.hid (fun W h => hA1 W h)
  have hq0 : (l.drop 2).length ≤ l.length := by rw [List.length_drop]; omega
  have HDC := Lib.hid (fun W h => double_any false A1 (l.drop 2) _ W h (hby.drop 2) hC1 (by omega))
  have hcd := resV_code (dbl false (l.drop 2).length (l.drop 2))
  have hat := resV_at (dbl_at false (l.drop 2).length (l.drop 2))
  have HUC := Lib.hid (fun W h => unit_bel A c l false W h hby hc h2)
  have d1 : decide (2 ≤ (l.length : Int)) = true := decide_eq_true (by omega)
  have d2 : (2 : Int) ≤ (l.length : Int) := by omega
  rw [hu] at HUC
  clear hu h2
  clear hA1 hr hi0 hsz hby
  generalize (l.drop 2) = q at *
  have hat1 : (resV (dbl false q.length q)).2.1 ≤ 35184372088832 := by omega
  have hat0 := hat.1
  clear hat hq0
  rcases hrs : resV (dbl false q.length q) with ⟨xs, at_, cd⟩
  rw [hrs] at HDC hcd hat0 hat1
  simp only at hcd hat0 hat1
  clear hrs
  rcases hcd with rfl | rfl
  all_goals
    go_enter Try.func33, Try.ntmps33
    go_wp2_with (first
      | (go_at_call 45; ((with_reducible refine (HUC.out _ (HR.out.below (below_first _))).mono ?_); rintro e w0 ⟨rfl, hB0⟩; have HB0 := Lib.hid (below_then (below_first _) (below_first _).size hB0); have HF0 := Lib.hid (blk_below (heap_alloc_new w (.cells #[.int .i64 0, .int .i64 0] 26)) hB0); clear hB0))
      | (go_at_call 34; ((with_reducible refine (HDC.out _ (HR1.out _ (HR.out.below (HB0.out)))).mono ?_); rintro e w1 ⟨v, rfl, hO, hB⟩; have HF1 := Lib.hid (blk_below (HF0.out) hB); have HO1 := Lib.hid (ORow.lower (base' := w.heap.size) hO (HB0.out.size)); have HB1 := Lib.hid (below_then (HB0.out) (HB0.out.size) hB); have c0 : w1.cell? ⟨w.heap.size, 0, none⟩ = some (.int .i64 0) := (blk_cell HF1.out 0).trans rfl; have c1 : w1.cell? ⟨w.heap.size, 1, none⟩ = some (.int .i64 0) := (blk_cell HF1.out 1).trans rfl; have z0 := blk_frozen HF1.out 0; have z1 := blk_frozen HF1.out 1; have hszz : w.heap.size < w1.heap.size := blk_lt HF1.out; clear hO hB)))
    go_region
    go_wp2
  · have HF2 := blk_below (blk_set (blk_set HF1.out 0 (.int .i64 at_)) 1 (.int .i64 0)) (below_first (.cells #[.int .i64 at_, .int .i64 0] 26))
    refine bodyPost_ret (results_tc rfl _ _ _ _ _ _ _ rfl HF2 Try.underlying26 rfl (by kernel_rfl)) rfl ?_
    exact ⟨_, rfl, ORow.drew (((HO1.out.set_ HF1.out (by decide) 0 _).set_ (blk_set HF1.out 0 _) (by decide) 1 _).alloc _), b_drew (below_alloc (below_set (below_set HB1.out (Nat.le_refl _)) (Nat.le_refl _)) _)⟩
  · have HF2 := blk_below (blk_set (blk_set HF1.out 0 (.int .i64 (at_ + 2))) 1 (.int .i64 20)) (below_first (.cells #[.int .i64 (at_ + 2), .int .i64 20] 26))
    refine bodyPost_ret (results_tc rfl _ _ _ _ _ _ _ rfl HF2 Try.underlying26 rfl (by kernel_rfl)) rfl ?_
    exact ⟨_, by simp [shiftR], ORow.drew (((HO1.out.set_ HF1.out (by decide) 0 _).set_ (blk_set HF1.out 0 _) (by decide) 1 _).alloc _), b_drew (below_alloc (below_set (below_set HB1.out (Nat.le_refl _)) (Nat.le_refl _)) _)⟩
set_option maxRecDepth 100000 in
set_option maxHeartbeats 4000000 in
theorem marked_little (A : Option Addr) (l : List Int) (c : Nat) (w : World) (hr : ReadsInt w .u8 A l.length l) (hby : Bytes l) (hc : l.length ≤ c) (hl : l.length ≤ 35184372088832) (h2 : 2 ≤ l.length) (hu : unitV l false = 65534) :
    Calls Try.prog 33 #[.slice A l.length c] w (PtsPost w (shiftR (resV (dbl true (l.drop 2).length (l.drop 2))) 2)) := by
  have HR := Lib.hid hr
  have HBY := Lib.hid hby
  obtain ⟨i0, hi0, _, hsz, _⟩ := info_parts infoU8
  obtain ⟨A1, hcut0, hA1, hC1⟩ := print_drop_of (P := Try.prog) (Value.int .u8) (0 : Int) 22 5 .i64 Try.underlying22 hi0 hsz A c l (2 : Int) (by omega) (by omega) hc
  rw [show ((2 : Int)).toNat = 2 from rfl] at hcut0 hA1 hC1
  try simp only [Nat.sub_zero] at hcut0 hC1
  have HR1 : Hid (∀ W, ReadsInt W .u8 A l.length l → ReadsInt W .u8 A1 (l.drop 2).length (l.drop 2)) := Lib.hid (fun W h => hA1 W h)
  have hq0 : (l.drop 2).length ≤ l.length := by rw [List.length_drop]; omega
  have HDC := Lib.hid (fun W h => double_any true A1 (l.drop 2) _ W h (hby.drop 2) hC1 (by omega))
  have hcd := resV_code (dbl true (l.drop 2).length (l.drop 2))
  have hat := resV_at (dbl_at true (l.drop 2).length (l.drop 2))
  have HUC := Lib.hid (fun W h => unit_bel A c l false W h hby hc h2)
  have d1 : decide (2 ≤ (l.length : Int)) = true := decide_eq_true (by omega)
  have d2 : (2 : Int) ≤ (l.length : Int) := by omega
  rw [hu] at HUC
  clear hu h2
  clear hA1 hr hi0 hsz hby
  generalize (l.drop 2) = q at *
  have hat1 : (resV (dbl true q.length q)).2.1 ≤ 35184372088832 := by omega
  have hat0 := hat.1
  clear hat hq0
  rcases hrs : resV (dbl true q.length q) with ⟨xs, at_, cd⟩
  rw [hrs] at HDC hcd hat0 hat1
  simp only at hcd hat0 hat1
  clear hrs
  rcases hcd with rfl | rfl
  all_goals
    go_enter Try.func33, Try.ntmps33
    go_wp2_with (first
      | (go_at_call 45; ((with_reducible refine (HUC.out _ (HR.out.below (below_first _))).mono ?_); rintro e w0 ⟨rfl, hB0⟩; have HB0 := Lib.hid (below_then (below_first _) (below_first _).size hB0); have HF0 := Lib.hid (blk_below (heap_alloc_new w (.cells #[.int .i64 0, .int .i64 0] 26)) hB0); clear hB0))
      | (go_at_call 34; ((with_reducible refine (HDC.out _ (HR1.out _ (HR.out.below (HB0.out)))).mono ?_); rintro e w1 ⟨v, rfl, hO, hB⟩; have HF1 := Lib.hid (blk_below (HF0.out) hB); have HO1 := Lib.hid (ORow.lower (base' := w.heap.size) hO (HB0.out.size)); have HB1 := Lib.hid (below_then (HB0.out) (HB0.out.size) hB); have c0 : w1.cell? ⟨w.heap.size, 0, none⟩ = some (.int .i64 0) := (blk_cell HF1.out 0).trans rfl; have c1 : w1.cell? ⟨w.heap.size, 1, none⟩ = some (.int .i64 0) := (blk_cell HF1.out 1).trans rfl; have z0 := blk_frozen HF1.out 0; have z1 := blk_frozen HF1.out 1; have hszz : w.heap.size < w1.heap.size := blk_lt HF1.out; clear hO hB)))
    go_region
    go_wp2
  · have HF2 := blk_below (blk_set (blk_set HF1.out 0 (.int .i64 at_)) 1 (.int .i64 0)) (below_first (.cells #[.int .i64 at_, .int .i64 0] 26))
    refine bodyPost_ret (results_tc rfl _ _ _ _ _ _ _ rfl HF2 Try.underlying26 rfl (by kernel_rfl)) rfl ?_
    exact ⟨_, rfl, ORow.drew (((HO1.out.set_ HF1.out (by decide) 0 _).set_ (blk_set HF1.out 0 _) (by decide) 1 _).alloc _), b_drew (below_alloc (below_set (below_set HB1.out (Nat.le_refl _)) (Nat.le_refl _)) _)⟩
  · have HF2 := blk_below (blk_set (blk_set HF1.out 0 (.int .i64 (at_ + 2))) 1 (.int .i64 20)) (below_first (.cells #[.int .i64 (at_ + 2), .int .i64 20] 26))
    refine bodyPost_ret (results_tc rfl _ _ _ _ _ _ _ rfl HF2 Try.underlying26 rfl (by kernel_rfl)) rfl ?_
    exact ⟨_, by simp [shiftR], ORow.drew (((HO1.out.set_ HF1.out (by decide) 0 _).set_ (blk_set HF1.out 0 _) (by decide) 1 _).alloc _), b_drew (below_alloc (below_set (below_set HB1.out (Nat.le_refl _)) (Nat.le_refl _)) _)⟩
set_option maxRecDepth 100000 in
set_option maxHeartbeats 4000000 in
theorem marked_plain (A : Option Addr) (l : List Int) (c : Nat) (w : World) (hr : ReadsInt w .u8 A l.length l) (hby : Bytes l) (hc : l.length ≤ c) (hl : l.length ≤ 35184372088832) (h2 : 2 ≤ l.length) (hu : unitV l false ≠ 65279) (hv : unitV l false ≠ 65534) :
    Calls Try.prog 33 #[.slice A l.length c] w (PtsPost w (shiftR (resV (dbl false (l.drop 0).length (l.drop 0))) 0)) := by
  have HR := Lib.hid hr
  have HBY := Lib.hid hby
  obtain ⟨i0, hi0, _, hsz, _⟩ := info_parts infoU8
  obtain ⟨A1, hcut0, hA1, hC1⟩ := print_drop_of (P := Try.prog) (Value.int .u8) (0 : Int) 22 5 .i64 Try.underlying22 hi0 hsz A c l (0 : Int) (by omega) (by omega) hc
  rw [show ((0 : Int)).toNat = 0 from rfl] at hcut0 hA1 hC1
  try simp only [Nat.sub_zero] at hcut0 hC1
  have HR1 : Hid (∀ W, ReadsInt W .u8 A l.length l → ReadsInt W .u8 A1 (l.drop 0).length (l.drop 0)) := Lib.hid (fun W h => hA1 W h)
  have hq0 : (l.drop 0).length ≤ l.length := by rw [List.length_drop]; omega
  have HDC := Lib.hid (fun W h => double_any false A1 (l.drop 0) _ W h (hby.drop 0) hC1 (by omega))
  have hcd := resV_code (dbl false (l.drop 0).length (l.drop 0))
  have hat := resV_at (dbl_at false (l.drop 0).length (l.drop 0))
  have HUC := Lib.hid (fun W h => unit_bel A c l false W h hby hc h2)
  have d1 : decide (2 ≤ (l.length : Int)) = true := decide_eq_true (by omega)
  have d2 : (2 : Int) ≤ (l.length : Int) := by omega
  generalize unitV l false = u at *
  have b1 : (u == 65279) = false := beq_eq_false_iff_ne.mpr hu
  have b2 : (u == 65534) = false := beq_eq_false_iff_ne.mpr hv
  clear hu hv h2
  clear hA1 hr hi0 hsz hby
  generalize (l.drop 0) = q at *
  have hat1 : (resV (dbl false q.length q)).2.1 ≤ 35184372088832 := by omega
  have hat0 := hat.1
  clear hat hq0
  rcases hrs : resV (dbl false q.length q) with ⟨xs, at_, cd⟩
  rw [hrs] at HDC hcd hat0 hat1
  simp only at hcd hat0 hat1
  clear hrs
  rcases hcd with rfl | rfl
  all_goals
    go_enter Try.func33, Try.ntmps33
    go_wp2_with (first
      | (go_at_call 45; ((with_reducible refine (HUC.out _ (HR.out.below (below_first _))).mono ?_); rintro e w0 ⟨rfl, hB0⟩; have HB0 := Lib.hid (below_then (below_first _) (below_first _).size hB0); have HF0 := Lib.hid (blk_below (heap_alloc_new w (.cells #[.int .i64 0, .int .i64 0] 26)) hB0); clear hB0))
      | (go_at_call 34; ((with_reducible refine (HDC.out _ (HR1.out _ (HR.out.below (HB0.out)))).mono ?_); rintro e w1 ⟨v, rfl, hO, hB⟩; have HF1 := Lib.hid (blk_below (HF0.out) hB); have HO1 := Lib.hid (ORow.lower (base' := w.heap.size) hO (HB0.out.size)); have HB1 := Lib.hid (below_then (HB0.out) (HB0.out.size) hB); have c0 : w1.cell? ⟨w.heap.size, 0, none⟩ = some (.int .i64 0) := (blk_cell HF1.out 0).trans rfl; have c1 : w1.cell? ⟨w.heap.size, 1, none⟩ = some (.int .i64 0) := (blk_cell HF1.out 1).trans rfl; have z0 := blk_frozen HF1.out 0; have z1 := blk_frozen HF1.out 1; have hszz : w.heap.size < w1.heap.size := blk_lt HF1.out; clear hO hB)))
    go_region
    go_wp2
  · have HF2 := blk_below (blk_set (blk_set HF1.out 0 (.int .i64 at_)) 1 (.int .i64 0)) (below_first (.cells #[.int .i64 at_, .int .i64 0] 26))
    refine bodyPost_ret (results_tc rfl _ _ _ _ _ _ _ rfl HF2 Try.underlying26 rfl (by kernel_rfl)) rfl ?_
    exact ⟨_, rfl, ORow.drew (((HO1.out.set_ HF1.out (by decide) 0 _).set_ (blk_set HF1.out 0 _) (by decide) 1 _).alloc _), b_drew (below_alloc (below_set (below_set HB1.out (Nat.le_refl _)) (Nat.le_refl _)) _)⟩
  · have HF2 := blk_below (blk_set (blk_set HF1.out 0 (.int .i64 (at_))) 1 (.int .i64 20)) (below_first (.cells #[.int .i64 (at_), .int .i64 20] 26))
    refine bodyPost_ret (results_tc rfl _ _ _ _ _ _ _ rfl HF2 Try.underlying26 rfl (by kernel_rfl)) rfl ?_
    exact ⟨_, by simp [shiftR], ORow.drew (((HO1.out.set_ HF1.out (by decide) 0 _).set_ (blk_set HF1.out 0 _) (by decide) 1 _).alloc _), b_drew (below_alloc (below_set (below_set HB1.out (Nat.le_refl _)) (Nat.le_refl _)) _)⟩
theorem marked_any (A : Option Addr) (l : List Int) (c : Nat) (w : World) (hr : ReadsInt w .u8 A l.length l) (hby : Bytes l) (hc : l.length ≤ c) (hl : l.length ≤ 35184372088832) :
    Calls Try.prog 33 #[.slice A l.length c] w (PtsPost w (resV (markV l))) := by
  by_cases h2 : 2 ≤ l.length
  · by_cases hu : unitV l false = 65279
    · rw [markV, if_pos ⟨h2, hu⟩, resV_join]
      exact marked_big A l c w hr hby hc hl h2 hu
    · by_cases hv : unitV l false = 65534
      · rw [markV, if_neg (fun h => hu h.2), if_pos ⟨h2, hv⟩, resV_join]
        exact marked_little A l c w hr hby hc hl h2 hv
      · rw [markV, if_neg (fun h => hu h.2), if_neg (fun h => hv h.2)]
        have h := marked_plain A l c w hr hby hc hl h2 hu hv
        rw [shiftR_zero, List.drop_zero] at h
        exact h
  · rw [markV, if_neg (fun h => h2 h.1), if_neg (fun h => h2 h.1)]
    have h := marked_short A l c w hr hby hc hl (by omega)
    rw [shiftR_zero, List.drop_zero] at h
    exact h
end Go.Proofs.Ytpbgpbblbohmgaa
