/- charset: single, double. -/
import Derived.Test.YtpbgpbblbohmgaaChU
namespace Go.Proofs.Ytpbgpbblbohmgaa
open Go.RowKit Go.Proofs.YtpbgpbblbohmgaaW.PrintWords

/-- A reading's answer: the points, or the place of what is wrong. -/
def resV (d : List Int × Option Nat) : List Int × Int × Int := match d.2 with | none => (d.1, 0, 0) | some n => ([], n, 20)
/-- A text of a set of one byte. -/
def sgl (f : Int) : List Int → List Int × Option Nat
  | [] => ([], none)
  | c :: t => if pointV f c < 0 then ([], some 0) else (pointV f c :: (sgl f t).1, (sgl f t).2.map (· + 1))
def dbl (b : Bool) : Nat → List Int → List Int × Option Nat
  | 0, _ => ([], none)
  | f + 1, l => if l.length = 0 then ([], none) else if l.length < 2 then ([], some 0) else
      if unitV l b < 55296 ∨ 57343 < unitV l b then joinD [unitV l b] 2 (dbl b f (l.drop 2)) else
      if 56320 ≤ unitV l b ∨ l.length < 4 then ([], some 0) else
      if unitV (l.drop 2) b < 56320 ∨ 57343 < unitV (l.drop 2) b then ([], some 0) else
      joinD [65536 + (unitV l b - 55296) * 1024 + (unitV (l.drop 2) b - 56320)] 4 (dbl b f (l.drop 4))

set_option maxRecDepth 100000 in
set_option maxHeartbeats 1000000 in
theorem single_any (f : Int) (A : Option Addr) (l : List Int) (c : Nat) (w : World) (hr : ReadsInt w .u8 A l.length l) (hby : Bytes l) (hl : l.length ≤ 35184372088832) :
    Calls Try.prog 35 #[.int .i64 f, .slice A l.length c] w (PtsPost w (resV (sgl f l))) := by
  have HR := Lib.hid hr
  have HBY := Lib.hid hby
  clear hr hby
  go_enter Try.func35, Try.ntmps35
  go_wp2
  go_loopw [6, 12] (fun s6 s12 wr => ∃ (acc : List Int) (n : Nat), n ≤ l.length ∧ s12 = .int .i64 n ∧ Hid (ORow .i32 21 wr w.heap.size s6 acc) ∧ Hid (wr.heap[w.heap.size]? = some (.cells #[.int .i64 0, .int .i64 0] 26 (0, 0))) ∧ Hid (Below w.heap.size w wr) ∧ Hid (sgl f l = joinD acc n (sgl f (l.drop n))) ∧ Hid (acc.length ≤ n)) (fun _ s12 _ => l.length - (intOf s12).toNat)
  case atStart =>
    refine ⟨[], 0, Nat.zero_le _, rfl, Lib.hid (ORow.nil _ _ _ _), Lib.hid ?_, Lib.hid (below_first _), Lib.hid ?_, Lib.hid (Nat.zero_le _)⟩
    · exact heap_alloc_new w _
    · simp [joinD]
  case round =>
    obtain ⟨acc, n, hn, rfl, HO, HF, HB, HD, HA⟩ := hrel
    have HW : wr.heap.size ≥ w.heap.size := HB.out.size
    by_cases hlt : n < l.length
    · obtain ⟨ad, rfl, hcell⟩ := (HR.out.below HB.out).at_ (n : Int) (by omega) (by omega)
      simp only [Int.toNat_natCast] at hcell
      have HE : Hid (l.drop n = rd l (n : Int) :: l.drop (n + 1)) := Lib.hid (by rw [rd_lt l n hlt]; exact List.drop_eq_getElem_cons hlt)
      have hcb := HBY.out.rd n
      generalize rd l (n : Int) = ch at *
      have HC := Lib.hid (fun W => point_any f ch W hcb.1 hcb.2)
      by_cases hp : pointV f ch < 0
      · have hV : resV (sgl f l) = ([], (n : Int), 20) := by
          have h2 := HD.out
          rw [HE.out, sgl, if_pos hp] at h2
          simp [resV, h2, joinD]
        have HV := Lib.hid hV
        clear hV HD HE
        generalize pointV f ch = p at *
        have d1 : decide (p < 0) = true := decide_eq_true hp
        clear hp
        go_wp2_with (first | (go_at_call 46; ((with_reducible refine (HC.out _).mono ?_); rintro e w1 ⟨rfl, hB1⟩; have HF1 := Lib.hid (blk_below HF.out hB1); have c0 : w1.cell? ⟨w.heap.size, 0, none⟩ = some (.int .i64 0) := (blk_cell HF1.out 0).trans rfl; have c1 : w1.cell? ⟨w.heap.size, 1, none⟩ = some (.int .i64 0) := (blk_cell HF1.out 1).trans rfl; have z0 := blk_frozen HF1.out 0; have z1 := blk_frozen HF1.out 1; have HB1 := Lib.hid (below_then HB.out HW hB1); clear hB1)))
        have HF2 := blk_set (blk_set HF1.out 0 (.int .i64 (n : Int))) 1 (.int .i64 20)
        refine bodyPost_ret (results_tc rfl _ _ _ _ _ _ _ rfl HF2 Try.underlying26 rfl (by kernel_rfl)) rfl ?_
        rw [HV.out]
        exact ⟨_, rfl, ORow.nil _ _ _ _, below_set (below_set HB1.out (Nat.le_refl _)) (Nat.le_refl _)⟩
      · have HD2 : Hid (sgl f l = joinD (acc ++ [pointV f ch]) (n + 1) (sgl f (l.drop (n + 1)))) := Lib.hid (by
          rw [HD.out, HE.out, sgl, if_neg hp]
          simp only [joinD, List.append_assoc, Option.map_map]
          congr 2; funext x; simp; omega)
        clear HD HE
        generalize pointV f ch = p at *
        have d1 : decide (p < 0) = false := decide_eq_false hp
        clear hp
        go_wp2_with (first
          | (go_at_call 46; ((with_reducible refine (HC.out _).mono ?_); rintro e w1 ⟨rfl, hB1⟩; have HF1 := Lib.hid (blk_below HF.out hB1); have HO1 := Lib.hid (HO.out.below hB1); have HB1 := Lib.hid (below_then HB.out HW hB1); have HW1 : w1.heap.size ≥ w.heap.size := HB1.out.size; clear hB1))
          | (at_builtin; refine print_append_num (w0 := w) w.heap.size rfl (.tmp 24) (.tmp 26) 32 21 .i32 4 rfl Try.underlying32 infoI32 (by decide) _ acc p rfl rfl HO1.out HB1.out HW1 (by have := HA.out; omega) ?_; intro v1 w2 hO2 hB2 hg2 _; have HO2 := Lib.hid hO2; have HB2 := Lib.hid hB2; have HF2 := Lib.hid ((hg2.block _ (blk_lt HF1.out) (own_ne HO1.out HF1.out (by decide))).trans HF1.out); clear hO2 hB2 hg2))
        go_roundw
        case rel => exact ⟨acc ++ [p], n + 1, hlt, by go_num, HO2, HF2, HB2, HD2, Lib.hid (by have := HA.out; simp; omega)⟩
        case measure => simp [intOf]; omega
    · have hnl : n = l.length := by omega
      have hV : resV (sgl f l) = (acc, 0, 0) := by
        have h2 := HD.out
        rw [hnl, List.drop_length] at h2
        simp [resV, h2, joinD, sgl]
      have HV := Lib.hid hV
      clear hV HD
      have c0 : wr.cell? ⟨w.heap.size, 0, none⟩ = some (.int .i64 0) := (blk_cell HF.out 0).trans rfl
      have c1 : wr.cell? ⟨w.heap.size, 1, none⟩ = some (.int .i64 0) := (blk_cell HF.out 1).trans rfl
      have z0 := blk_frozen HF.out 0
      have z1 := blk_frozen HF.out 1
      clear hnl
      go_wp2
      have HF1 := blk_set (blk_set HF.out 0 (.int .i64 0)) 1 (.int .i64 0)
      refine bodyPost_ret (results_tc rfl _ _ _ _ _ _ _ rfl HF1 Try.underlying26 rfl (by kernel_rfl)) rfl ?_
      rw [HV.out]
      exact ⟨_, rfl, (HO.out.set_ HF.out (by decide) 0 _).set_ (blk_set HF.out 0 _) (by decide) 1 _, below_set (below_set HB.out (Nat.le_refl _)) (Nat.le_refl _)⟩
end Go.Proofs.Ytpbgpbblbohmgaa
