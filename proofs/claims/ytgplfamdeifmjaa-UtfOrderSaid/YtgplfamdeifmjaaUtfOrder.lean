/- The order of points is that of their bytes, and no one's bytes are another one's front: the walk of the statement, and the plain law. -/
import Derived.Test.YtgplfamdeifmjaaUtfAlive
namespace Go.Proofs.Ytgplfamdeifmjaa
open Go.RowKit Go.Proofs.YtgplfamdeifmjaaW.PrintWords

def lessI : List Int → List Int → Bool
  | _, [] => false
  | [], _ :: _ => true
  | a :: x, b :: y => decide (a < b) || (a == b && lessI x y)
theorem less_U8 : ∀ {xs ys : List Int}, Bytes xs → Bytes ys → Op.bytesLess (U8 xs) (U8 ys) = lessI xs ys
  | xs, [], _, _ => by cases xs <;> rfl
  | [], _ :: _, _, _ => rfl
  | x :: xs, y :: ys, hx, hy => by
    have h1 := hx x List.mem_cons_self
    have h2 := hy y List.mem_cons_self
    have ih := less_U8 (xs := xs) (ys := ys) (fun z hz => hx z (List.mem_cons_of_mem _ hz)) (fun z hz => hy z (List.mem_cons_of_mem _ hz))
    show (decide (UInt8.ofNat x.toNat < UInt8.ofNat y.toNat) || (UInt8.ofNat x.toNat == UInt8.ofNat y.toNat && Op.bytesLess (U8 xs) (U8 ys))) = (decide (x < y) || (x == y && lessI xs ys))
    rw [ih]
    have e1 : decide (UInt8.ofNat x.toNat < UInt8.ofNat y.toNat) = decide (x < y) := by
      rw [Bool.eq_iff_iff]; simp only [decide_eq_true_eq, UInt8.lt_iff_toNat_lt, UInt8.toNat_ofNat']; omega
    have e2 : (UInt8.ofNat x.toNat == UInt8.ofNat y.toNat) = (x == y) := by
      rw [Bool.eq_iff_iff]; simp only [beq_iff_eq, ← UInt8.toNat_inj, UInt8.toNat_ofNat']; omega
    rw [e1, e2]
theorem put_lessI (p q : Int) (hp : isPt p = true) (hq : isPt q = true) : lessI (putB p) (putB q) = decide (p < q) := by
  have h := isPt_bd hp
  have k := isPt_bd hq
  rw [Bool.eq_iff_iff, decide_eq_true_eq]
  by_cases a1 : p < 128
  · rw [putB_one hp a1]
    by_cases b1 : q < 128
    · rw [putB_one hq b1]; simp [lessI]
    · by_cases b2 : q < 2048
      · rw [putB_two hq (by omega) b2]; simp [lessI]; omega
      · by_cases b3 : q < 65536
        · rw [putB_three hq (by omega) b3]; simp [lessI]; omega
        · rw [putB_four hq (by omega)]; simp [lessI]; omega
  · by_cases a2 : p < 2048
    · rw [putB_two hp (by omega) a2]
      by_cases b1 : q < 128
      · rw [putB_one hq b1]; simp [lessI]; omega
      · by_cases b2 : q < 2048
        · rw [putB_two hq (by omega) b2]; simp [lessI]; omega
        · by_cases b3 : q < 65536
          · rw [putB_three hq (by omega) b3]; simp [lessI]; omega
          · rw [putB_four hq (by omega)]; simp [lessI]; omega
    · by_cases a3 : p < 65536
      · rw [putB_three hp (by omega) a3]
        by_cases b1 : q < 128
        · rw [putB_one hq b1]; simp [lessI]; omega
        · by_cases b2 : q < 2048
          · rw [putB_two hq (by omega) b2]; simp [lessI]; omega
          · by_cases b3 : q < 65536
            · rw [putB_three hq (by omega) b3]; simp [lessI]; omega
            · rw [putB_four hq (by omega)]; simp [lessI]; omega
      · rw [putB_four hp (by omega)]
        by_cases b1 : q < 128
        · rw [putB_one hq b1]; simp [lessI]; omega
        · by_cases b2 : q < 2048
          · rw [putB_two hq (by omega) b2]; simp [lessI]; omega
          · by_cases b3 : q < 65536
            · rw [putB_three hq (by omega) b3]; simp [lessI]; omega
            · rw [putB_four hq (by omega)]; simp [lessI]; omega
theorem putB_front (p q : Int) (hp : isPt p = true) (hq : isPt q = true) (h : (putB q).take (putB p).length = putB p) : p = q := by
  have h1 := nextV_put p (putB q) hp h
  have h2 := nextV_put q (putB q) hq (List.take_length)
  rw [h1] at h2
  exact (Prod.mk.inj h2).1
theorem put_less (p q : Int) (hp : isPt p = true) (hq : isPt q = true) : Op.bytesLess (strOfNums (putB p)).toList (strOfNums (putB q)).toList = decide (p < q) := by
  rw [sn_toList, sn_toList, less_U8 (putB_bytes p) (putB_bytes q), put_lessI p q hp hq]
theorem put_eq (p q : Int) (hp : isPt p = true) (hq : isPt q = true) : ((strOfNums (putB p)).toList == (strOfNums (putB q)).toList) = (p == q) := by
  rw [sn_beq (putB_bytes p) (putB_bytes q)]
  by_cases e : p = q
  · subst e; simp
  · rw [decide_eq_false fun h => e (putB_front p q hp hq (by rw [h, List.take_length])), beq_eq_false_iff_ne.mpr e]

theorem put_code (p : Int) (w : World) (c : Int) (h : putE p = c) : Calls Try.prog 9 #[.int .i32 p] w fun e w' => ∃ v, e = .returned (.tuple #[v, .int .i64 c]) ∧ ORow .u8 5 w' w.heap.size v (putB p) ∧ Below w.heap.size w w' := by
  subst h; exact put_any p w

set_option maxRecDepth 100000 in
set_option maxHeartbeats 1000000 in
theorem order_bad (p q a b : Int) (w : World) (cp : putE p = a) (cq : putE q = b) (hab : a = 20 ∨ (a = 0 ∧ b = 20)) : Calls Try.prog 4 #[.int .i32 p, .int .i32 q] w fun e w' => e = .returned (.bool true) ∧ Below w.heap.size w w' := by
  have HP := Lib.hid (put_code p w _ cp)
  rcases hab with rfl | ⟨rfl, rfl⟩
  · go_enter Try.func4, Try.ntmps4
    go_wp2_with (first
      | (have tok := HP.out; go_at_call 9; ((with_reducible refine HP.out.mono ?_); rintro e w1 ⟨v1, rfl, hO1, hB1⟩; have HB1 := Lib.hid hB1; have HO1 := Lib.hid hO1; have HQ := Lib.hid (put_code q w1 _ cq); clear hB1 hO1 HP))
      | (go_at_call 9; ((with_reducible refine HQ.out.mono ?_); rintro e w2 ⟨v2, rfl, hO2, hB2⟩; have HB2 := Lib.hid (below_then HB1.out HB1.out.size hB2); have HO2 := Lib.hid hO2; have HO1b := Lib.hid (HO1.out.below hB2); clear hB2 hO2 HQ HO1))
      | (go_at_call 13; ((with_reducible refine (alive_any _).mono ?_); rintro e w3 ⟨rfl, hB3⟩; have HB3 := Lib.hid (below_then HB2.out HB2.out.size hB3); clear hB3)))
    go_ret
    exact ⟨rfl, HB3.out⟩
  · go_enter Try.func4, Try.ntmps4
    go_wp2_with (first
      | (have tok := HP.out; go_at_call 9; ((with_reducible refine HP.out.mono ?_); rintro e w1 ⟨v1, rfl, hO1, hB1⟩; have HB1 := Lib.hid hB1; have HO1 := Lib.hid hO1; have HQ := Lib.hid (put_code q w1 _ cq); clear hB1 hO1 HP))
      | (go_at_call 9; ((with_reducible refine HQ.out.mono ?_); rintro e w2 ⟨v2, rfl, hO2, hB2⟩; have HB2 := Lib.hid (below_then HB1.out HB1.out.size hB2); have HO2 := Lib.hid hO2; have HO1b := Lib.hid (HO1.out.below hB2); clear hB2 hO2 HQ HO1))
      | (go_at_call 13; ((with_reducible refine (alive_any _).mono ?_); rintro e w3 ⟨rfl, hB3⟩; have HB3 := Lib.hid (below_then HB2.out HB2.out.size hB3); clear hB3)))
    go_ret
    exact ⟨rfl, HB3.out⟩

set_option maxRecDepth 100000 in
set_option maxHeartbeats 1000000 in
theorem order_good (p q : Int) (w : World) (hp : isPt p = true) (hq : isPt q = true) : Calls Try.prog 4 #[.int .i32 p, .int .i32 q] w fun e w' => e = .returned (.bool true) ∧ Below w.heap.size w w' := by
  have cp : putE p = 0 := by simp [putE, hp]
  have cq : putE q = 0 := by simp [putE, hq]
  have HP := Lib.hid (put_code p w _ cp)
  have HQF := Lib.hid (fun w1 : World => put_code q w1 _ cq)
  have hless := put_less p q hp hq
  have heq := put_eq p q hp hq
  have HFR := Lib.hid (fun h => putB_front p q hp hq h)
  have HLP := Lib.hid (putB_len p)
  have HBP := Lib.hid (putB_bytes p)
  have HBQ := Lib.hid (putB_bytes q)
  have HEQ : Hid (p = q → putB p = putB q) := Lib.hid (fun h => by rw [h])
  clear hp hq cp
  generalize putB p = bp at *
  generalize putB q = bq at *
  by_cases hl : bp.length < bq.length
  · have d1 : decide ((bp.length : Int) < (bq.length : Int)) = true := decide_eq_true (by omega)
    have d2 : decide (bp.length < bq.length) = true := decide_eq_true hl
    have hs : ((strOfNums (bq.take bp.length)).toList == (strOfNums bp).toList) = false := by
      rw [sn_beq (HBQ.out.take _) HBP.out]
      exact decide_eq_false fun h => by have := HEQ.out (HFR.out h); rw [this] at hl; omega
    generalize hqt : bq.take bp.length = qt at hs
    have HQT := Lib.hid hqt
    clear hqt
    go_enter Try.func4, Try.ntmps4
    go_wp2_with (first
      | (have tok := HP.out; go_at_call 9; ((with_reducible refine HP.out.mono ?_); rintro e w1 ⟨v1, rfl, hO1, hB1⟩; obtain ⟨A1, c1, rfl, hc1, hr1⟩ := hO1.reads; have HB1 := Lib.hid hB1; have HR1 := Lib.hid hr1; have HQ := Lib.hid (HQF.out w1); clear hB1 hO1 HP hr1 hc1))
      | (go_at_call 9; ((with_reducible refine HQ.out.mono ?_); rintro e w2 ⟨v2, rfl, hO2, hB2⟩; obtain ⟨A2, c2, rfl, hc2, hr2⟩ := hO2.reads; have HB2 := Lib.hid (below_then HB1.out HB1.out.size hB2); have HR2 := Lib.hid hr2; have HR1b := Lib.hid (HR1.out.below hB2); have HC2 := Lib.hid hc2; clear hB2 hO2 HQ HR1 hr2; obtain ⟨i0, hi0, _, hsz, _⟩ := info_parts infoU8; obtain ⟨hcut0, hA1, hC1⟩ := print_take_of (P := Try.prog) (Value.int .u8) (0 : Int) 22 5 .i64 Try.underlying22 hi0 hsz A2 c2 bq (bp.length : Int) (by omega) (by omega) hc2; simp only [Int.toNat_natCast, HQT.out] at hcut0 hA1 hC1; have HRT := Lib.hid (hA1 _ HR2.out); clear hA1 hi0 hsz; have ct1 := fun k => string_of_reads (P := Try.prog) (A := A1) (c := c1) (n := bp.length) Try.underlying22 Try.underlying5 Try.underlying9 (HR1b.out.below (pw_below_drewN (Below.refl _ _) k)); have ct2 := fun k => string_of_reads (P := Try.prog) (A := A2) (c := c2) (n := qt.length) Try.underlying22 Try.underlying5 Try.underlying9 (HRT.out.below (pw_below_drewN (Below.refl _ _) k)); clear hc2)))
    go_quiet (fail)
    go_wp2_with (first
      | (go_at_call 13; ((with_reducible refine (alive_any _).mono ?_); rintro e w3 ⟨rfl, hB3⟩; have HX := Lib.hid (below_then (pw_below_drewN (Below.refl _ w2) _) (Nat.le_refl _) hB3); have HB3 := Lib.hid (below_then HB2.out HB2.out.size HX.out); have cv1 := string_of_reads (P := Try.prog) (A := A1) (c := c1) (n := bp.length) Try.underlying22 Try.underlying5 Try.underlying9 (HR1b.out.below HX.out); have cv2 := string_of_reads (P := Try.prog) (A := A2) (c := c2) (n := bq.length) Try.underlying22 Try.underlying5 Try.underlying9 (HR2.out.below HX.out); clear hB3)))
    go_ret
    exact ⟨rfl, HB3.out⟩
  · have d1 : decide ((bp.length : Int) < (bq.length : Int)) = false := decide_eq_false (by omega)
    have d2 : decide (bp.length < bq.length) = false := decide_eq_false hl
    go_enter Try.func4, Try.ntmps4
    go_wp2_with (first
      | (have tok := HP.out; go_at_call 9; ((with_reducible refine HP.out.mono ?_); rintro e w1 ⟨v1, rfl, hO1, hB1⟩; obtain ⟨A1, c1, rfl, hc1, hr1⟩ := hO1.reads; have HB1 := Lib.hid hB1; have HR1 := Lib.hid hr1; have HQ := Lib.hid (HQF.out w1); clear hB1 hO1 HP hr1 hc1))
      | (go_at_call 9; ((with_reducible refine HQ.out.mono ?_); rintro e w2 ⟨v2, rfl, hO2, hB2⟩; obtain ⟨A2, c2, rfl, hc2, hr2⟩ := hO2.reads; have HB2 := Lib.hid (below_then HB1.out HB1.out.size hB2); have HR2 := Lib.hid hr2; have HR1b := Lib.hid (HR1.out.below hB2); have HC2 := Lib.hid hc2; clear hB2 hO2 HQ HR1 hr2; clear hc2)))
    go_quiet (fail)
    go_wp2_with (first
      | (go_at_call 13; ((with_reducible refine (alive_any _).mono ?_); rintro e w3 ⟨rfl, hB3⟩; have HX := Lib.hid (below_then (pw_below_drewN (Below.refl _ w2) _) (Nat.le_refl _) hB3); have HB3 := Lib.hid (below_then HB2.out HB2.out.size HX.out); have cv1 := string_of_reads (P := Try.prog) (A := A1) (c := c1) (n := bp.length) Try.underlying22 Try.underlying5 Try.underlying9 (HR1b.out.below HX.out); have cv2 := string_of_reads (P := Try.prog) (A := A2) (c := c2) (n := bq.length) Try.underlying22 Try.underlying5 Try.underlying9 (HR2.out.below HX.out); clear hB3)))
    go_ret
    exact ⟨rfl, HB3.out⟩

theorem order_walk (p q : Int) (w : World) : Calls Try.prog 4 #[.int .i32 p, .int .i32 q] w fun e w' => e = .returned (.bool true) ∧ Below w.heap.size w w' := by
  rcases hp : isPt p with _ | _
  · exact order_bad p q _ _ w rfl rfl (.inl (by simp [putE, hp]))
  · rcases hq : isPt q with _ | _
    · exact order_bad p q _ _ w rfl rfl (.inr ⟨by simp [putE, hp], by simp [putE, hq]⟩)
    · exact order_good p q w hp hq
theorem order_law (p q : Int) (w : World) (_ : (Lit.int .i32 p).wf = true) (_ : (Lit.int .i32 q).wf = true) : Calls Try.prog 4 #[.int .i32 p, .int .i32 q] w fun e w' => e = .returned (.bool true) ∧ Below w.heap.size w w' := order_walk p q w
end Go.Proofs.Ytgplfamdeifmjaa
