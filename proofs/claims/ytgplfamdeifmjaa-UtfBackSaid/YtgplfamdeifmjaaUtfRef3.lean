/- The document's utf: Cut and Same. -/
import Derived.Test.YtgplfamdeifmjaaUtfRef2
namespace Go.Proofs.Ytgplfamdeifmjaa
open Go.RowKit Go.Proofs.YtgplfamdeifmjaaW.PrintWords

set_option maxHeartbeats 400000 in
theorem rsame_any (A B : Option Addr) (a b : List Int) (c d : Nat) (w : World) (ha : ReadsInt w .i32 A a.length a) (hb : ReadsInt w .i32 B b.length b) :
    Calls Try.prog 17 #[.slice A a.length c, .slice B b.length d] w fun e w' => e = .returned (.bool (decide (a = b))) ∧ Below w.heap.size w w' := by
  have HA := Lib.hid ha
  have HB := Lib.hid hb
  have hma := ha.2.1
  clear ha hb
  by_cases hl : a.length = b.length
  · have b1 : ((a.length : Int) != (b.length : Int)) = false := bne_eq_false_iff_eq.mpr (by omega)
    have HL := Lib.hid hl
    clear hl
    go_enter Try.func17, Try.ntmps17
    go_wp2
    go_loopw [5] (fun s5 wr => ∃ k : Nat, k ≤ a.length ∧ s5 = .int .i64 k ∧ Hid (a.take k = b.take k) ∧ Hid (Below w.heap.size w wr)) (fun s5 _ => a.length - (intOf s5).toNat)
    case atStart => exact ⟨0, Nat.zero_le _, rfl, Lib.hid rfl, Lib.hid (Below.refl _ _)⟩
    case round =>
      obtain ⟨k, hk, rfl, HT, HW⟩ := hrel
      by_cases hlt : k < a.length
      · have hltb : k < b.length := by have := HL.out; omega
        obtain ⟨ad, rfl, hca⟩ := (HA.out.below HW.out).at_ (k : Int) (by omega) (by omega)
        obtain ⟨bd, rfl, hcb⟩ := (HB.out.below HW.out).at_ (k : Int) (by omega) (by omega)
        simp only [Int.toNat_natCast] at hca hcb
        have d1 : ((k : Int) < (a.length : Int)) = True := eq_true (by omega)
        have d2 : ((k : Int) < (b.length : Int)) = True := eq_true (by omega)
        have HTA := Lib.hid (take_succ_rd a k hlt)
        have HTB := Lib.hid (take_succ_rd b k hltb)
        by_cases he : rd a (k : Int) = rd b (k : Int)
        · have HT2 : Hid (a.take (k + 1) = b.take (k + 1)) := Lib.hid (by rw [HTA.out, HTB.out, HT.out, he])
          rw [← he] at hcb
          clear he
          generalize rd a (k : Int) = x at *
          go_wp2
          go_quiet (fail)
          go_wp2
          go_roundw
          case rel => exact ⟨k + 1, hlt, by go_num, HT2, Lib.hid (pw_below_drewN HW.out _)⟩
          case measure => simp [intOf]; omega
        · have HV : Hid (decide (a = b) = false) := Lib.hid (decide_eq_false fun e => he (by rw [e]))
          have b2 : (rd a (k : Int) != rd b (k : Int)) = true := bne_iff_ne.mpr he
          have b3 : (rd a (k : Int) == rd b (k : Int)) = false := beq_eq_false_iff_ne.mpr he
          clear he
          generalize rd a (k : Int) = x at *
          generalize rd b (k : Int) = y at *
          go_wp2
          go_quiet (fail)
          go_wp2
          go_ret
          rw [HV.out]
          exact ⟨rfl, pw_below_drewN HW.out _⟩
      · have HV : Hid (decide (a = b) = true) := Lib.hid (decide_eq_true (by
          have h := HT.out
          rwa [List.take_of_length_le (by omega), List.take_of_length_le (by have := HL.out; omega)] at h))
        go_wp2
        go_ret
        rw [HV.out]
        exact ⟨rfl, HW.out⟩
  · have b1 : ((a.length : Int) != (b.length : Int)) = true := bne_iff_ne.mpr (by omega)
    have HV : Hid (decide (a = b) = false) := Lib.hid (decide_eq_false fun e => hl (by rw [e]))
    clear hl
    go_enter Try.func17, Try.ntmps17
    go_wp2
    go_ret
    rw [HV.out]
    exact ⟨rfl, Below.refl _ _⟩

/-- A point's bytes behind the first go on it, and the first does not. -/
theorem putB_first (p : Int) (h : isPt p = true) : rd (putB p) 0 / 64 ≠ 2 := by
  have hb := isPt_bd h
  by_cases h1 : p < 128
  · rw [putB_one h h1]; simp [rd]; omega
  · by_cases h2 : p < 2048
    · rw [putB_two h (by omega) h2]; simp [rd]; omega
    · by_cases h3 : p < 65536
      · rw [putB_three h (by omega) h3]; simp [rd]; omega
      · rw [putB_four h (by omega)]; simp [rd]; omega
theorem putB_cont (p : Int) (h : isPt p = true) (j : Nat) (h1 : 1 ≤ j) (h2 : j < (putB p).length) : rd (putB p) (j : Int) / 64 = 2 := by
  have hb := isPt_bd h
  by_cases c1 : p < 128
  · rw [putB_one h c1] at h2; simp at h2; omega
  · by_cases c2 : p < 2048
    · rw [putB_two h (by omega) c2] at h2 ⊢
      simp at h2
      obtain rfl : j = 1 := by omega
      simp [rd]; omega
    · by_cases c3 : p < 65536
      · rw [putB_three h (by omega) c3] at h2 ⊢
        simp at h2
        rcases (show j = 1 ∨ j = 2 by omega) with rfl | rfl <;> simp [rd] <;> omega
      · rw [putB_four h (by omega)] at h2 ⊢
        simp at h2
        rcases (show j = 1 ∨ j = 2 ∨ j = 3 by omega) with rfl | rfl | rfl <;> simp [rd] <;> omega
theorem putB_pos (p : Int) (h : isPt p = true) : 1 ≤ (putB p).length := by
  have hb := isPt_bd h
  by_cases c1 : p < 128
  · rw [putB_one h c1]; simp
  · by_cases c2 : p < 2048
    · rw [putB_two h (by omega) c2]; simp
    · by_cases c3 : p < 65536
      · rw [putB_three h (by omega) c3]; simp
      · rw [putB_four h (by omega)]; simp
theorem back_eq (l : List Int) (n : Nat) : ∀ m, n ≤ m → (∀ j, n < j → j ≤ m → j < l.length ∧ rd l (j : Int) / 64 = 2) → (n = 0 ∨ ¬ (n < l.length ∧ rd l (n : Int) / 64 = 2)) → back l m = n := by
  intro m
  induction m with
  | zero => intro h _ _; rw [show n = 0 by omega]; rfl
  | succ m ih =>
    intro h hj hn
    by_cases e : n = m + 1
    · rw [e] at hn ⊢
      rcases hn with hn | hn
      · omega
      · rw [back, if_neg hn]
    · rw [back, if_pos (hj (m + 1) (by omega) (Nat.le_refl _))]
      exact ih (by omega) (fun j h1 h2 => hj j h1 (by omega)) hn
theorem rd_drop (l : List Int) (n j : Nat) : rd (l.drop n) (j : Int) = rd l ((n + j : Nat) : Int) := by
  simp only [rd, Int.toNat_natCast, List.getD_eq_getElem?_getD, List.getElem?_drop]
theorem rd_take (l : List Int) (n j : Nat) (h : j < n) : rd (l.take n) (j : Int) = rd l (j : Int) := by
  simp [rd, List.getElem?_take, h]
/-- What stands at a place where a point begins. -/
theorem start_facts (l : List Int) (hby : Bytes l) (n : Nat) (h : (nextV (l.drop n)).2.2 = 0) :
    rd l (n : Int) / 64 ≠ 2 ∧ n + (nextV (l.drop n)).2.1 ≤ l.length ∧ 1 ≤ (nextV (l.drop n)).2.1 ∧ ∀ j, 1 ≤ j → j < (nextV (l.drop n)).2.1 → rd l ((n + j : Nat) : Int) / 64 = 2 := by
  obtain ⟨hp, ht, hl⟩ := nextV_ok (l.drop n) (hby.drop n) h
  have h1 := nextV_len (l.drop n)
  have h2 := putB_pos _ hp
  have hle : (nextV (l.drop n)).2.1 ≤ l.length - n := by have := h1.1; rwa [List.length_drop] at this
  refine ⟨?_, by omega, h1.2.1 h, fun j hj1 hj2 => ?_⟩
  · have h3 := putB_first _ hp
    have h5 := h1.2.1 h
    rw [← ht] at h3
    rwa [show (0 : Int) = ((0 : Nat) : Int) from rfl, rd_take _ _ _ (by omega), rd_drop] at h3
  · have h3 := putB_cont _ hp j hj1 (by omega)
    rwa [← ht, rd_take _ _ _ hj2, rd_drop] at h3

theorem clamp_lo (m : Int) (n : Nat) (h : m < 0) : mx (mn m n) 0 = 0 := by
  unfold mx mn
  repeat' split
  all_goals omega
theorem clamp_mid (m : Int) (n : Nat) (h : 0 ≤ m) (h1 : m < n) : mx (mn m n) 0 = m := by
  unfold mx mn
  repeat' split
  all_goals omega
theorem clamp_hi (m : Int) (n : Nat) (h1 : n ≤ m) : mx (mn m n) 0 = n := by
  unfold mx mn
  repeat' split
  all_goals omega

set_option maxRecDepth 100000 in
set_option maxHeartbeats 1000000 in
theorem rcut_any (A : Option Addr) (l : List Int) (c : Nat) (m : Int) (w : World) (hr : ReadsInt w .u8 A l.length l) (hby : Bytes l) (hc : l.length ≤ c) (hl : l.length ≤ 35184372088832) (hm : -9223372036854775808 ≤ m ∧ m ≤ 9223372036854775807) :
    Calls Try.prog 22 #[.slice A l.length c, .int .i64 m] w fun e w' => e = .returned (.int .i64 (cutV l m)) ∧ Below w.heap.size w w' := by
  have HC0 := Lib.hid (rvalid_any A l c w hr hby hc hl)
  have HR := Lib.hid hr
  have HBY := Lib.hid hby
  clear hr hby
  have HV : Hid (cutV l m = if vldV l = true then ((back l (mx (mn m l.length) 0).toNat : Nat) : Int) else mx (mn m l.length) 0) := Lib.hid rfl
  generalize cutV l m = V at *
  obtain ⟨hm0, hm1⟩ := hm
  by_cases hneg : m < 0
  · have HV2 : Hid (V = 0) := Lib.hid (by
      rw [HV.out, clamp_lo m _ hneg]; split <;> rfl)
    go_enter Try.func22, Try.ntmps22
    go_wp2
    go_ret
    rw [HV2.out]
    exact ⟨rfl, Below.refl _ _⟩
  · rcases hv : vldV l with _ | _
    · rw [hv] at HV HC0
      by_cases hlt : m < l.length
      · have HV2 : Hid (V = m) := Lib.hid (by
          rw [HV.out, if_neg (by simp), clamp_mid m _ (by omega) hlt])
        clear hv
        go_enter Try.func22, Try.ntmps22
        go_wp2_with (first | (go_at_call 21; ((with_reducible refine HC0.out.mono ?_); rintro e w1 ⟨rfl, hB1⟩; have HB1 := Lib.hid hB1; clear hB1)))
        go_ret
        rw [HV2.out]
        exact ⟨rfl, HB1.out⟩
      · have HV2 : Hid (V = (l.length : Int)) := Lib.hid (by
          rw [HV.out, if_neg (by simp), clamp_hi m _ (by omega)])
        clear hv
        go_enter Try.func22, Try.ntmps22
        go_wp2_with (first | (go_at_call 21; ((with_reducible refine HC0.out.mono ?_); rintro e w1 ⟨rfl, hB1⟩; have HB1 := Lib.hid hB1; clear hB1)))
        go_ret
        rw [HV2.out]
        exact ⟨rfl, HB1.out⟩
    · rw [hv] at HV HC0
      have HVD : Hid (vldV l = true) := Lib.hid hv
      clear hv
      go_enter Try.func22, Try.ntmps22
      go_wp2_with (first | (go_at_call 21; ((with_reducible refine HC0.out.mono ?_); rintro e w1 ⟨rfl, hB1⟩; have HB1 := Lib.hid hB1; clear hB1)))
      go_loopw [5] (fun s5 wr => ∃ n f : Nat, n ≤ l.length ∧ (n : Int) ≤ m ∧ s5 = .int .i64 n ∧ Hid (Below w.heap.size w wr) ∧ Hid ((dec f (l.drop n)).2 = none) ∧ Hid (l.length - n ≤ f)) (fun s5 _ => l.length - (intOf s5).toNat)
      case atStart => exact ⟨0, l.length, Nat.zero_le _, by omega, rfl, HB1, Lib.hid (by have := HVD.out; simpa [vldV] using this), Lib.hid (by omega)⟩
      case round =>
        obtain ⟨n, f, hn, hnm, rfl, HB, HD, Hf⟩ := hrel
        by_cases hlt : n < l.length
        · obtain ⟨f, rfl⟩ : ∃ f', f = f' + 1 := ⟨f - 1, by have := Hf.out; omega⟩
          have hql : (l.drop n).length = l.length - n := List.length_drop
          have he : (nextV (l.drop n)).2.2 = 0 := by
            have h1 := HD.out
            rw [dec, if_neg (by omega)] at h1
            by_cases h2 : (nextV (l.drop n)).2.2 = 0
            · exact h2
            · rw [if_neg h2] at h1; simp at h1
          have hd2 : (dec f (l.drop (n + (nextV (l.drop n)).2.1))).2 = none := by
            have h1 := HD.out
            rw [dec_step f _ (by omega) he] at h1
            simp only [joinD, Option.map_eq_none_iff, List.drop_drop] at h1
            exact h1
          have HD2 := Lib.hid hd2
          have hsf := start_facts l HBY.out n he
          have HSF := Lib.hid hsf
          obtain ⟨_, hk1, hk2, _⟩ := hsf
          obtain ⟨i0, hi0, _, hsz, _⟩ := info_parts infoU8
          obtain ⟨A1, hcut0, hA1, hC1⟩ := print_drop_of (P := Try.prog) (Value.int .u8) (0 : Int) 22 5 .i64 Try.underlying22 hi0 hsz A c l (n : Int) (by omega) (by omega) hc
          simp only [Int.toNat_natCast] at hcut0 hA1 hC1
          have HC := Lib.hid (rnext_any A1 (l.drop n) _ wr (hA1 _ (HR.out.below HB.out)) (HBY.out.drop n) hC1)
          have HNV : Hid (nextV (l.drop n) = ((nextV (l.drop n)).1, (nextV (l.drop n)).2.1, 0)) := Lib.hid (by rw [← he])
          clear he hd2 hA1 hi0 hsz hql HD
          generalize l.drop n = q at *
          generalize (nextV q).1 = p at *
          generalize (nextV q).2.1 = k at *
          simp only [HNV.out] at HC
          by_cases hgt : m - n < k
          · have HV2 : Hid (V = (n : Int)) := Lib.hid (by
              have h1 := HSF.out
              rw [HV.out, if_pos (by trivial)]
              have e : (mx (mn m l.length) 0).toNat = m.toNat := by rw [clamp_mid m _ (by omega) (by omega)]
              rw [e, back_eq l n m.toNat (by omega) (fun j h2 h3 => ?_) (.inr fun h => h1.1 h.2)]
              have h4 := h1.2.2.2 (j - n) (by omega) (by omega)
              rw [show n + (j - n) = j by omega] at h4
              exact ⟨by omega, h4⟩)
            go_wp2_with (first | (go_at_call 12; ((with_reducible refine HC.out.mono ?_); rintro e w2 ⟨rfl, hB2⟩; have HB2 := Lib.hid (below_then HB.out HB.out.size hB2); clear hB2)))
            go_ret
            rw [HV2.out]
            exact ⟨rfl, HB2.out⟩
          · go_wp2_with (first | (go_at_call 12; ((with_reducible refine HC.out.mono ?_); rintro e w2 ⟨rfl, hB2⟩; have HB2 := Lib.hid (below_then HB.out HB.out.size hB2); clear hB2)))
            go_roundw
            case rel => exact ⟨n + k, f, hk1, by omega, by go_num, HB2, HD2, Lib.hid (by have := Hf.out; omega)⟩
            case measure => simp [intOf]; omega
        · have HV2 : Hid (V = (n : Int)) := Lib.hid (by
            rw [HV.out, if_pos (by trivial)]
            have e : (mx (mn m l.length) 0).toNat = n := by rw [clamp_hi m _ (by omega)]; omega
            rw [e, back_eq l n n (Nat.le_refl _) (fun j h2 h3 => by omega) (.inr fun h => hlt h.1)])
          go_wp2
          go_ret
          rw [HV2.out]
          exact ⟨rfl, HB.out⟩
end Go.Proofs.Ytgplfamdeifmjaa
