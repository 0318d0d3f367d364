/- The package utf: Points, Text, Valid, Cut. -/
import Derived.Test.YtpbgpbblbohmgaaUtfNext
namespace Go.Proofs.Ytpbgpbblbohmgaa
open Go.RowKit Go.Proofs.YtpbgpbblbohmgaaW.PrintWords

/-- A text's points, and where there is none. -/
def dec : Nat → List Int → List Int × Option Nat
  | 0, _ => ([], none)
  | f + 1, l => if l.length = 0 then ([], none) else if (nextV l).2.2 = 0 then ((nextV l).1 :: (dec f (l.drop (nextV l).2.1)).1, (dec f (l.drop (nextV l).2.1)).2.map (· + (nextV l).2.1)) else ([], some 0)
def joinD (acc : List Int) (n : Nat) (d : List Int × Option Nat) : List Int × Option Nat := (acc ++ d.1, d.2.map (· + n))

theorem nextV_len (l : List Int) : (nextV l).2.1 ≤ l.length ∧ ((nextV l).2.2 = 0 → 1 ≤ (nextV l).2.1) ∧ ((nextV l).2.2 = 0 ∨ (nextV l).2.2 = 20 ∨ l.length = 0) := by
  unfold nextV
  by_cases h0 : l.length = 0
  · simp [h0]
  · rw [if_neg h0]
    by_cases h1 : rd l 0 < 128
    · rw [if_pos h1]; exact ⟨by show 1 ≤ _; omega, fun _ => Nat.le_refl _, .inl rfl⟩
    · rw [if_neg h1]
      by_cases h2 : ldN (rd l 0) = 0 ∨ l.length < ldN (rd l 0)
      · rw [if_pos h2]; exact ⟨Nat.zero_le _, fun h => by simp at h, .inr (.inl rfl)⟩
      · rw [if_neg h2]
        split
        · exact ⟨by show ldN _ ≤ _; omega, fun _ => by show 1 ≤ ldN _; omega, .inl rfl⟩
        · exact ⟨Nat.zero_le _, fun h => by simp at h, .inr (.inl rfl)⟩

/-- What Points tells: the points, the place, the error. -/
def ptsV (l : List Int) : List Int × Int × Int := match (dec l.length l).2 with | none => ((dec l.length l).1, 0, 0) | some n => ([], n, 20)
def PtsPost (w : World) (r : List Int × Int × Int) (e : Ending) (w' : World) : Prop :=
  ∃ v, e = .returned (.tuple #[v, .agg #[.int .i64 r.2.1, .int .i64 r.2.2]]) ∧ ORow .i32 21 w' w.heap.size v r.1 ∧ Below w.heap.size w w'

theorem dec_step (f : Nat) (l : List Int) (h0 : l.length ≠ 0) (h : (nextV l).2.2 = 0) : dec (f + 1) l = joinD [(nextV l).1] (nextV l).2.1 (dec f (l.drop (nextV l).2.1)) := by
  rw [dec, if_neg h0, if_pos h]; rfl
theorem joinD_joinD (a b : List Int) (m n : Nat) (d : List Int × Option Nat) : joinD a m (joinD b n d) = joinD (a ++ b) (m + n) d := by
  simp only [joinD, List.append_assoc, Option.map_map]
  congr 2
  funext x
  simp; omega

set_option maxRecDepth 100000 in
set_option maxHeartbeats 1000000 in
theorem points_any (A : Option Addr) (l : List Int) (c : Nat) (w : World) (hr : ReadsInt w .u8 A l.length l) (hby : Bytes l) (hc : l.length ≤ c) (hl : l.length ≤ 35184372088832) :
    Calls Try.prog 15 #[.slice A l.length c] w (PtsPost w (ptsV l)) := by
  have HR := Lib.hid hr
  have HBY := Lib.hid hby
  clear hr hby
  go_enter Try.func15, Try.ntmps15
  go_wp2
  go_loopw [4, 5] (fun s4 s5 wr => ∃ (acc : List Int) (n f : Nat), n ≤ l.length ∧ s5 = .int .i64 n ∧ Hid (ORow .i32 21 wr w.heap.size s4 acc) ∧ Hid (wr.heap[w.heap.size]? = some (.cells #[.int .i64 0, .int .i64 0] 26 (0, 0))) ∧ Hid (Below w.heap.size w wr) ∧ Hid (dec l.length l = joinD acc n (dec f (l.drop n))) ∧ Hid (l.length - n ≤ f) ∧ Hid (acc.length ≤ n)) (fun _ s5 _ => l.length - (intOf s5).toNat)
  case atStart =>
    refine ⟨[], 0, l.length, Nat.zero_le _, rfl, Lib.hid (ORow.nil _ _ _ _), Lib.hid ?_, Lib.hid (below_first _), Lib.hid ?_, Lib.hid (by omega), Lib.hid (Nat.zero_le _)⟩
    · exact heap_alloc_new w _
    · simp [joinD]
  case round =>
    obtain ⟨acc, n, f, hn, rfl, HO, HF, HB, HD, Hf, HA⟩ := hrel
    by_cases hlt : n < l.length
    · obtain ⟨i0, hi0, _, hsz, _⟩ := info_parts infoU8
      obtain ⟨A1, hcut0, hA1, hC1⟩ := print_drop_of (P := Try.prog) (Value.int .u8) (0 : Int) 22 5 .i64 Try.underlying22 hi0 hsz A c l (n : Int) (by omega) (by omega) hc
      simp only [Int.toNat_natCast] at hcut0 hA1 hC1
      have hql : (l.drop n).length = l.length - n := List.length_drop
      have HR1 := Lib.hid (hA1 _ (HR.out.below HB.out))
      have HBY1 := Lib.hid (HBY.out.drop n)
      have HQ : Hid (∀ m, l.drop (n + m) = (l.drop n).drop m) := Lib.hid fun m => by rw [List.drop_drop]
      generalize l.drop n = q at *
      have HQL := Lib.hid hql
      clear hql hA1 hi0 hsz
      have hN := nextV_len q
      by_cases he : (nextV q).2.2 = 0
      · obtain ⟨f, rfl⟩ : ∃ f', f = f' + 1 := ⟨f - 1, by have := Hf.out; omega⟩
        have HD2 : Hid (dec l.length l = joinD (acc ++ [(nextV q).1]) (n + (nextV q).2.1) (dec f (l.drop (n + (nextV q).2.1)))) := Lib.hid (by
          rw [HD.out, dec_step f q (by have := HQL.out; omega) he, joinD_joinD, HQ.out])
        rw [he] at hN
        have HE := Lib.hid he
        have hN1 := hN.2.1 rfl
        have hN0 := hN.1
        have HN1 := Lib.hid hN1
        have hnm : n + (nextV q).2.1 ≤ l.length := by have := HQL.out; omega
        have HW : wr.heap.size ≥ w.heap.size := HB.out.size
        clear HD he hN
        have HNV : Hid (nextV q = ((nextV q).1, (nextV q).2.1, 0)) := Lib.hid (by rw [← HE.out])
        generalize (nextV q).1 = p at *
        generalize (nextV q).2.1 = m at *
        have HC := Lib.hid (next_any A1 q _ wr HR1.out HBY1.out hC1)
        simp only [HNV.out] at HC
        go_wp2_with (first
          | (go_at_call 29; ((with_reducible refine HC.out.mono ?_); rintro e w' ⟨rfl, rfl⟩))
          | (at_builtin; refine print_append_num (w0 := w) w.heap.size rfl (.tmp 26) (.tmp 28) 32 21 .i32 4 rfl Try.underlying32 infoI32 (by decide) _ acc p rfl rfl HO.out HB.out HW (by have := HA.out; omega) ?_; intro v1 w1 hO1 hB1 hg1 _; have HO1 := Lib.hid hO1; have HB1 := Lib.hid hB1; have HF1 := Lib.hid ((hg1.block _ (blk_lt HF.out) (own_ne HO.out HF.out (by decide))).trans HF.out); clear hO1 hB1 hg1))
        go_roundw
        case rel => exact ⟨acc ++ [p], n + m, f, hnm, by go_num, HO1, HF1, HB1, HD2, Lib.hid (by have := Hf.out; have := HN1.out; omega), Lib.hid (by have := HA.out; have := HN1.out; simp; omega)⟩
        case measure => simp [intOf]; omega
      · have he2 : (nextV q).2.2 = 20 := by have := HQL.out; rcases hN.2.2 with h | h | h <;> omega
        obtain ⟨f, rfl⟩ : ∃ f', f = f' + 1 := ⟨f - 1, by have := Hf.out; omega⟩
        have hV : ptsV l = ([], (n : Int), 20) := by
          have h1 : dec (f + 1) q = ([], some 0) := by rw [dec, if_neg (by have := HQL.out; omega), if_neg he]
          have h2 := HD.out
          rw [h1] at h2
          simp [ptsV, h2, joinD]
        have HV := Lib.hid hV
        clear hV HD
        have HC := Lib.hid (next_any A1 q _ wr HR1.out HBY1.out hC1)
        have HNV : Hid (nextV q = ((nextV q).1, (nextV q).2.1, 20)) := Lib.hid (by rw [← he2])
        clear he he2 hN
        have c0 : wr.cell? ⟨w.heap.size, 0, none⟩ = some (.int .i64 0) := (blk_cell HF.out 0).trans rfl
        have c1 : wr.cell? ⟨w.heap.size, 1, none⟩ = some (.int .i64 0) := (blk_cell HF.out 1).trans rfl
        have z0 := blk_frozen HF.out 0
        have z1 := blk_frozen HF.out 1
        generalize (nextV q).1 = p at *
        generalize (nextV q).2.1 = m at *
        simp only [HNV.out] at HC
        go_wp2_with (first | (go_at_call 29; ((with_reducible refine HC.out.mono ?_); rintro e w' ⟨rfl, rfl⟩)))
        have HF1 := blk_set (blk_set HF.out 0 (.int .i64 (n : Int))) 1 (.int .i64 20)
        refine bodyPost_ret (results_tc rfl _ _ _ _ _ _ _ rfl HF1 Try.underlying26 rfl (by kernel_rfl)) rfl ?_
        rw [HV.out]
        exact ⟨_, rfl, ORow.nil _ _ _ _, below_set (below_set HB.out (Nat.le_refl _)) (Nat.le_refl _)⟩
    · have hnl : n = l.length := by omega
      have hV : ptsV l = (acc, 0, 0) := by
        have h1 : dec f (l.drop n) = ([], none) := by
          rw [hnl, List.drop_length]; cases f <;> simp [dec]
        have h2 := HD.out
        rw [h1] at h2
        simp [ptsV, h2, joinD]
      have HV := Lib.hid hV
      clear hV HD
      have c0 : wr.cell? ⟨w.heap.size, 0, none⟩ = some (.int .i64 0) := (blk_cell HF.out 0).trans rfl
      have c1 : wr.cell? ⟨w.heap.size, 1, none⟩ = some (.int .i64 0) := (blk_cell HF.out 1).trans rfl
      have z0 := blk_frozen HF.out 0
      have z1 := blk_frozen HF.out 1
      clear hnl
      go_wp2
      have HF1 := blk_set (blk_set HF.out 0 (.int .i64 0)) 1 (.int .i64 0)
      refine bodyPost_ret (results_tc rfl _ _ _ _ _ _ _ rfl HF1 Try.underlying26 rfl (by kernel_rfl)) rfl ?_
      rw [HV.out]
      exact ⟨_, rfl, (HO.out.set_ HF.out (by decide) 0 _).set_ (blk_set HF.out 0 _) (by decide) 1 _, below_set (below_set HB.out (Nat.le_refl _)) (Nat.le_refl _)⟩
/-- Points' bytes, and where there are none. -/
def txt : List Int → List Int × Option Nat
  | [] => ([], none)
  | p :: t => if isPt p = true then (putB p ++ (txt t).1, (txt t).2.map (· + 1)) else ([], some 0)
def txtV (l : List Int) : List Int × Int × Int := match (txt l).2 with | none => ((txt l).1, 0, 0) | some n => ([], n, 20)
theorem putB_len (p : Int) : (putB p).length ≤ 4 := by unfold putB; repeat' split
                                                       all_goals simp
def TxtPost (w : World) (r : List Int × Int × Int) (e : Ending) (w' : World) : Prop :=
  ∃ v, e = .returned (.tuple #[v, .agg #[.int .i64 r.2.1, .int .i64 r.2.2]]) ∧ ORow .u8 5 w' w.heap.size v r.1 ∧ Below w.heap.size w w'

set_option maxRecDepth 100000 in
set_option maxHeartbeats 1000000 in
theorem text_any (A : Option Addr) (l : List Int) (c : Nat) (w : World) (hr : ReadsInt w .i32 A l.length l) (hl : l.length ≤ 35184372088832) :
    Calls Try.prog 21 #[.slice A l.length c] w (TxtPost w (txtV l)) := by
  have HR := Lib.hid hr
  clear hr
  go_enter Try.func21, Try.ntmps21
  go_wp2
  go_loopw [4, 11] (fun s4 s11 wr => ∃ (acc : List Int) (n : Nat), n ≤ l.length ∧ s11 = .int .i64 n ∧ Hid (ORow .u8 5 wr w.heap.size s4 acc) ∧ Hid (wr.heap[w.heap.size]? = some (.cells #[.int .i64 0, .int .i64 0] 26 (0, 0))) ∧ Hid (Below w.heap.size w wr) ∧ Hid (txt l = joinD acc n (txt (l.drop n))) ∧ Hid (acc.length ≤ 4 * n)) (fun _ s11 _ => l.length - (intOf s11).toNat)
  case atStart =>
    refine ⟨[], 0, Nat.zero_le _, rfl, Lib.hid (ORow.nil _ _ _ _), Lib.hid ?_, Lib.hid (below_first _), Lib.hid ?_, Lib.hid (Nat.zero_le _)⟩
    · exact heap_alloc_new w _
    · simp [joinD]
  case round =>
    obtain ⟨acc, n, hn, rfl, HO, HF, HB, HD, HA⟩ := hrel
    have HW : wr.heap.size ≥ w.heap.size := HB.out.size
    by_cases hlt : n < l.length
    · obtain ⟨ad, rfl, hcell⟩ := (HR.out.below HB.out).at_ (n : Int) (by omega) (by omega)
      simp only [Int.toNat_natCast] at hcell
      have HE : Hid (l.drop n = rd l (n : Int) :: l.drop (n + 1)) := Lib.hid (by rw [rd_lt l n hlt]; exact List.drop_eq_getElem_cons hlt)
      generalize rd l (n : Int) = p at *
      rcases hp : isPt p with _ | _
      · have HC := Lib.hid (put_no p wr hp)
        have hV : txtV l = ([], (n : Int), 20) := by
          have h2 := HD.out
          rw [HE.out, txt, if_neg (by rw [hp]; simp)] at h2
          simp [txtV, h2, joinD]
        have HV := Lib.hid hV
        clear hV HD HE hp
        go_wp2_with (first | (go_at_call 28; ((with_reducible refine HC.out.mono ?_); rintro e w1 ⟨rfl, hB1⟩; have HF1 := Lib.hid (blk_below HF.out hB1); have c0 : w1.cell? ⟨w.heap.size, 0, none⟩ = some (.int .i64 0) := (blk_cell HF1.out 0).trans rfl; have c1 : w1.cell? ⟨w.heap.size, 1, none⟩ = some (.int .i64 0) := (blk_cell HF1.out 1).trans rfl; have z0 := blk_frozen HF1.out 0; have z1 := blk_frozen HF1.out 1; have HB1 := Lib.hid (below_then HB.out HW hB1); clear hB1)))
        have HF2 := blk_set (blk_set HF1.out 0 (.int .i64 (n : Int))) 1 (.int .i64 20)
        refine bodyPost_ret (results_tc rfl _ _ _ _ _ _ _ rfl HF2 Try.underlying26 rfl (by kernel_rfl)) rfl ?_
        rw [HV.out]
        exact ⟨_, rfl, ORow.nil _ _ _ _, below_set (below_set HB1.out (Nat.le_refl _)) (Nat.le_refl _)⟩
      · have HC := Lib.hid (put_ok p wr hp)
        have HPL := Lib.hid (putB_len p)
        have HD2 : Hid (txt l = joinD (acc ++ putB p) (n + 1) (txt (l.drop (n + 1)))) := Lib.hid (by
          rw [HD.out, HE.out, txt, if_pos hp]
          simp only [joinD, List.append_assoc, Option.map_map]
          congr 2; funext x; simp; omega)
        clear HD HE hp
        generalize putB p = ps at *
        go_wp2_with (first
          | (go_at_call 28; ((with_reducible refine HC.out.mono ?_); rintro e w1 ⟨v, rfl, hO1, hB1⟩; obtain ⟨A2, c2, rfl, hc2, hR2⟩ := hO1.reads; have HR2 := Lib.hid hR2; have HF1 := Lib.hid (blk_below HF.out hB1); have HB1 := Lib.hid (below_then HB.out HW hB1); have HO2 := Lib.hid (HO.out.below hB1); have HW1 : w1.heap.size ≥ w.heap.size := HB1.out.size; clear hB1 hR2 hO1))
          | (at_builtin; refine print_append_row (w0 := w) w.heap.size rfl (.tmp 26) (.tmp 27) 22 5 .u8 1 rfl Try.underlying22 infoU8 (by decide) _ acc ps _ _ _ rfl rfl HO2.out HR2.out HB1.out HW1 (by have := HA.out; have := HPL.out; omega) ?_; intro v1 w2 hO3 hB3 hg3 _; have HO3 := Lib.hid hO3; have HB3 := Lib.hid hB3; have HF3 := Lib.hid ((hg3.block _ (blk_lt HF1.out) (own_ne HO2.out HF1.out (by decide))).trans HF1.out); clear hO3 hB3 hg3))
        go_roundw
        case rel => exact ⟨acc ++ ps, n + 1, hlt, by go_num, HO3, HF3, HB3, HD2, Lib.hid (by have := HA.out; have := HPL.out; simp; omega)⟩
        case measure => simp [intOf]; omega
    · have hnl : n = l.length := by omega
      have hV : txtV l = (acc, 0, 0) := by
        have h2 := HD.out
        rw [hnl, List.drop_length] at h2
        simp [txtV, h2, joinD, txt]
      have HV := Lib.hid hV
      clear hV HD
      have c0 : wr.cell? ⟨w.heap.size, 0, none⟩ = some (.int .i64 0) := (blk_cell HF.out 0).trans rfl
      have c1 : wr.cell? ⟨w.heap.size, 1, none⟩ = some (.int .i64 0) := (blk_cell HF.out 1).trans rfl
      have z0 := blk_frozen HF.out 0
      have z1 := blk_frozen HF.out 1
      clear hnl
      go_wp2
      have HF1 := blk_set (blk_set HF.out 0 (.int .i64 0)) 1 (.int .i64 0)
      refine bodyPost_ret (results_tc rfl _ _ _ _ _ _ _ rfl HF1 Try.underlying26 rfl (by kernel_rfl)) rfl ?_
      rw [HV.out]
      exact ⟨_, rfl, (HO.out.set_ HF.out (by decide) 0 _).set_ (blk_set HF.out 0 _) (by decide) 1 _, below_set (below_set HB.out (Nat.le_refl _)) (Nat.le_refl _)⟩

/-- Is a text valid? -/
def vldV (l : List Int) : Bool := (dec l.length l).2.isNone
theorem ptsV_code (l : List Int) : (ptsV l).2.2 = if vldV l = true then 0 else 20 := by
  unfold ptsV vldV
  cases (dec l.length l).2 <;> simp

set_option maxRecDepth 100000 in
set_option maxHeartbeats 400000 in
theorem valid_any (A : Option Addr) (l : List Int) (c : Nat) (w : World) (hr : ReadsInt w .u8 A l.length l) (hby : Bytes l) (hc : l.length ≤ c) (hl : l.length ≤ 35184372088832) :
    Calls Try.prog 16 #[.slice A l.length c] w fun e w' => e = .returned (.bool (vldV l)) ∧ Below w.heap.size w w' := by
  have HC := Lib.hid (points_any A l c w hr hby hc hl)
  have HE := Lib.hid (ptsV_code l)
  clear hr hby
  rcases hv : vldV l with _ | _
  all_goals
    rw [hv] at HE
    simp at HE
    go_enter Try.func16, Try.ntmps16
    go_wp2_with (first | (go_at_call 15; ((with_reducible refine HC.out.mono ?_); rintro e w1 ⟨v, rfl, hO1, hB1⟩; rw [HE.out]; have HB1 := Lib.hid hB1; clear hO1 hB1)))
    go_ret
    exact ⟨rfl, below_alloc HB1.out _⟩

end Go.Proofs.Ytpbgpbblbohmgaa
