/- The walks of the statements UtfPoints, UtfCuts, UtfJoins. -/
import Derived.Test.YtgplfamdeifmjaaUtfPlain
import Derived.OpenShut
namespace Go.Proofs.Ytgplfamdeifmjaa
open Go.RowKit Go.Proofs.YtgplfamdeifmjaaW.PrintWords

theorem wf_u8 {l : List Int} (h : ∀ n ∈ l, (Lit.int .u8 n).wf = true) : Bytes l := fun x hx => Go.bounds_u8 (h x hx)
theorem wf_int {m : Int} (h : (Lit.int .i64 m).wf = true) : -9223372036854775808 ≤ m ∧ m ≤ 9223372036854775807 := Go.bounds_i64 h

set_option maxRecDepth 100000 in
set_option maxHeartbeats 1000000 in
theorem points_law (p : Int) (A : Option Addr) (l : List Int) (c : Nat) (w : World) (_ : (Lit.int .i32 p).wf = true) (hr : ReadsInt w .u8 A l.length l) (hwf : ∀ n ∈ l, (Lit.int .u8 n).wf = true) (hc : l.length ≤ c) (_ : l.length * 1 ≤ 140737488351232) :
    Calls Try.prog 3 #[.int .i32 p, .slice A l.length c] w fun e w' => e = .returned (.bool true) ∧ Below w.heap.size w w' := by
  have HP := Lib.hid (put_any p w)
  have HR := Lib.hid hr
  have HBY := Lib.hid (wf_u8 hwf)
  have HC := Lib.hid hc
  clear hr hwf hc
  have HQF := Lib.hid (fun w1 : World => rput_any p w1)
  have HNF := Lib.hid (fun (w1 : World) (h : Below w.heap.size w w1) => next_any A l c w1 (HR.out.below h) HBY.out HC.out)
  have HMF := Lib.hid (fun (w1 : World) (h : Below w.heap.size w w1) => rnext_any A l c w1 (HR.out.below h) HBY.out HC.out)
  unfold PutPost at HP HQF
  generalize putB p = ps at *
  generalize putE p = pe at *
  obtain ⟨a, b, d⟩ := nextV l
  go_enter Try.func3, Try.ntmps3
  go_wp2_with (first
    | (go_at_call 9; ((with_reducible refine HP.out.mono ?_); rintro e w1 ⟨v1, rfl, hO1, hB1⟩; have HB1 := Lib.hid hB1; have HO1 := Lib.hid hO1; have HQ := Lib.hid (HQF.out w1); clear hB1 hO1))
    | (go_at_call 10; ((with_reducible refine HQ.out.mono ?_); rintro e w2 ⟨v2, rfl, hO2, hB2⟩; have HB2 := Lib.hid (below_then HB1.out HB1.out.size hB2); have HO2 := Lib.hid hO2; have HO1b := Lib.hid (HO1.out.below hB2); have HN := Lib.hid (HNF.out w2 HB2.out); have HM := Lib.hid (HMF.out w2 HB2.out); clear hB2 hO2))
    | (go_at_call 11; ((with_reducible refine HN.out.mono ?_); rintro e w3 ⟨rfl, rfl⟩))
    | (go_at_call 12; ((with_reducible refine HM.out.mono ?_); rintro e w4 ⟨rfl, hB4⟩; have HB4 := Lib.hid hB4; clear hB4))
    | (go_at_call 13; ((with_reducible refine (alive_any _).mono ?_); rintro e w5 ⟨rfl, hB5⟩; have HX := Lib.hid (below_then HB4.out HB4.out.size hB5); have HB5 := Lib.hid (below_then HB2.out HB2.out.size HX.out); have cv1 := own_string (P := Try.prog) Try.underlying22 Try.underlying5 Try.underlying9 (HO1b.out.below HX.out); have cv2 := own_string (P := Try.prog) Try.underlying22 Try.underlying5 Try.underlying9 (HO2.out.below HX.out); clear hB5)))
  go_ret
  exact ⟨rfl, HB5.out⟩
set_option maxRecDepth 100000 in
set_option maxHeartbeats 1000000 in
theorem cuts_law (A : Option Addr) (l : List Int) (c : Nat) (m : Int) (w : World) (hr : ReadsInt w .u8 A l.length l) (hwf : ∀ n ∈ l, (Lit.int .u8 n).wf = true) (hc : l.length ≤ c) (_ : l.length * 1 ≤ 140737488351232) (hm : (Lit.int .i64 m).wf = true) :
    Calls Try.prog 5 #[.slice A l.length c, .int .i64 m] w fun e w' => e = .returned (.bool true) ∧ Below w.heap.size w w' := by
  have hmax := hr.2.1
  by_cases hbig : 2000 < l.length
  · clear hr hwf hc
    go_enter Try.func5, Try.ntmps5
    go_wp2_with (first | (go_at_call 13; ((with_reducible refine (alive_any _).mono ?_); rintro e w1 ⟨rfl, hB1⟩; have HB1 := Lib.hid hB1; clear hB1)))
    go_ret
    exact ⟨rfl, HB1.out⟩
  · have hby := wf_u8 hwf
    have HR := Lib.hid hr
    have HBY := Lib.hid hby
    have HC := Lib.hid hc
    have hl : l.length ≤ 35184372088832 := by omega
    have HK := Lib.hid (cut_any A l c m w hr hby hc hl)
    have HV := Lib.hid (fun (w1 : World) (h : Below w.heap.size w w1) => valid_any A l c w1 (HR.out.below h) HBY.out HC.out hl)
    obtain ⟨hm0, hm1⟩ := wf_int hm
    rcases hv : vldV l with _ | _
    · have hcv : ∃ n : Nat, cutV l m = n ∧ n ≤ l.length ∧ (0 ≤ m → (n : Int) ≤ m) ∧ (m < 0 → n = 0) := by
        unfold cutV
        rw [if_neg (by rw [hv]; simp)]
        refine ⟨(mx (mn m l.length) 0).toNat, ?_⟩
        by_cases c1 : m < 0
        · rw [clamp_lo m _ c1]; simp <;> omega
        · by_cases c2 : m < l.length
          · rw [clamp_mid m _ (by omega) c2]; omega
          · rw [clamp_hi m _ (by omega)]; simp <;> omega
      obtain ⟨n, hn, hn1, hn2, hn3⟩ := hcv
      rw [hn] at HK
      rw [hv] at HV
      clear hr hby hwf hc hv hn
      by_cases c1 : m < 0
      · obtain rfl := hn3 c1
        clear hn2 hn3
        go_enter Try.func5, Try.ntmps5
        go_wp2_with (first
          | (go_at_call 14; ((with_reducible refine HK.out.mono ?_); rintro e w1 ⟨rfl, hB1⟩; have HB1 := Lib.hid hB1; have HV1 := Lib.hid (HV.out w1 hB1); clear hB1))
          | (go_at_call 15; ((with_reducible refine HV1.out.mono ?_); rintro e w2 ⟨rfl, hB2⟩; have HB2 := Lib.hid (below_then HB1.out HB1.out.size hB2); clear hB2))
          | (go_at_call 13; ((with_reducible refine (alive_any _).mono ?_); rintro e w3 ⟨rfl, hB3⟩; have HB3 := Lib.hid (below_then HB2.out HB2.out.size hB3); clear hB3)))
        go_ret
        exact ⟨rfl, HB3.out⟩
      · have hn4 := hn2 (by omega)
        clear hn2 hn3
        go_enter Try.func5, Try.ntmps5
        go_wp2_with (first
          | (go_at_call 14; ((with_reducible refine HK.out.mono ?_); rintro e w1 ⟨rfl, hB1⟩; have HB1 := Lib.hid hB1; have HV1 := Lib.hid (HV.out w1 hB1); clear hB1))
          | (go_at_call 15; ((with_reducible refine HV1.out.mono ?_); rintro e w2 ⟨rfl, hB2⟩; have HB2 := Lib.hid (below_then HB1.out HB1.out.size hB2); clear hB2))
          | (go_at_call 13; ((with_reducible refine (alive_any _).mono ?_); rintro e w3 ⟨rfl, hB3⟩; have HB3 := Lib.hid (below_then HB2.out HB2.out.size hB3); clear hB3)))
        go_ret
        exact ⟨rfl, HB3.out⟩
    · obtain ⟨n, hn, hn1, hn2, hn3, hn4, hn5, hn6, hn7⟩ := cut_law l m hby hv
      rw [hn] at HK
      rw [hv] at HV
      obtain ⟨i0, hi0, _, hsz, _⟩ := info_parts infoU8
      obtain ⟨hcutT, hAT, hCT⟩ := print_take_of (P := Try.prog) (Value.int .u8) (0 : Int) 22 5 .i64 Try.underlying22 hi0 hsz A c l (n : Int) (by omega) (by omega) hc
      obtain ⟨A1, hcutD, hAD, hCD⟩ := print_drop_of (P := Try.prog) (Value.int .u8) (0 : Int) 22 5 .i64 Try.underlying22 hi0 hsz A c l (n : Int) (by omega) (by omega) hc
      simp only [Int.toNat_natCast] at hcutT hAT hCT hcutD hAD hCD
      have HVT := Lib.hid (fun (w1 : World) (h : Below w.heap.size w w1) => valid_at A (l.take n) _ c w1 _ rfl hn4 (hAT _ (HR.out.below h)) (HBY.out.take n) hCT (by rw [List.length_take]; omega))
      have HVD := Lib.hid (fun (w1 : World) (h : Below w.heap.size w w1) => valid_at A1 (l.drop n) _ (c - n) w1 _ rfl hn5 (hAD _ (HR.out.below h)) (HBY.out.drop n) hCD (by rw [List.length_drop]; omega))
      have HLD : Hid ((l.drop n).length = l.length - n) := Lib.hid List.length_drop
      clear hr hby hwf hc hv hn hn4 hn5 hAT hCT hAD hCD hi0 hsz
      generalize l.take n = qt at *
      generalize l.drop n = qd at *
      by_cases c1 : m < 0
      · have hn8 : (n : Int) ≤ 0 := by have := hn3 c1; omega
        have d0 : ((n : Int) != 0) = false := bne_eq_false_iff_eq.mpr (by omega)
        clear hn2 hn3 hn6 hn7
        go_enter Try.func5, Try.ntmps5
        go_wp2_with (first
          | (go_at_call 14; ((with_reducible refine HK.out.mono ?_); rintro e w1 ⟨rfl, hB1⟩; have HB1 := Lib.hid hB1; have HV1 := Lib.hid (HV.out w1 hB1); clear hB1))
          | (go_at_call 15; ((with_reducible refine HV1.out.mono ?_); rintro e w2 ⟨rfl, hB2⟩; have HB2 := Lib.hid (below_then HB1.out HB1.out.size hB2); clear hB2))
          | (go_at_call 13; ((with_reducible refine (alive_any _).mono ?_); rintro e w3 ⟨rfl, hB3⟩; have HB3 := Lib.hid (below_then HB2.out HB2.out.size hB3); have HT := Lib.hid (HVT.out w3 HB3.out); clear hB3))
          | (go_at_call 15; ((with_reducible refine HT.out.mono ?_); rintro e w4 ⟨rfl, hB4⟩; have HB4 := Lib.hid (below_then HB3.out HB3.out.size hB4); have HD := Lib.hid (HVD.out w4 HB4.out); clear hB4))
          | (go_at_call 15; ((with_reducible refine HD.out.mono ?_); rintro e w5 ⟨rfl, hB5⟩; have HB5 := Lib.hid (below_then HB4.out HB4.out.size hB5); clear hB5)))
        go_ret
        exact ⟨rfl, HB5.out⟩
      · have hn8 := hn2 (by omega)
        by_cases c2 : m < l.length
        · have hn9 := hn6 (by omega) c2
          clear hn2 hn3 hn6 hn7
          have d1 : decide (m < (l.length : Int)) = true := decide_eq_true c2
          go_enter Try.func5, Try.ntmps5
          go_wp2_with (first
            | (go_at_call 14; ((with_reducible refine HK.out.mono ?_); rintro e w1 ⟨rfl, hB1⟩; have HB1 := Lib.hid hB1; have HV1 := Lib.hid (HV.out w1 hB1); clear hB1))
            | (go_at_call 15; ((with_reducible refine HV1.out.mono ?_); rintro e w2 ⟨rfl, hB2⟩; have HB2 := Lib.hid (below_then HB1.out HB1.out.size hB2); clear hB2))
            | (go_at_call 13; ((with_reducible refine (alive_any _).mono ?_); rintro e w3 ⟨rfl, hB3⟩; have HB3 := Lib.hid (below_then HB2.out HB2.out.size hB3); have HT := Lib.hid (HVT.out w3 HB3.out); clear hB3))
            | (go_at_call 15; ((with_reducible refine HT.out.mono ?_); rintro e w4 ⟨rfl, hB4⟩; have HB4 := Lib.hid (below_then HB3.out HB3.out.size hB4); have HD := Lib.hid (HVD.out w4 HB4.out); clear hB4))
            | (go_at_call 15; ((with_reducible refine HD.out.mono ?_); rintro e w5 ⟨rfl, hB5⟩; have HB5 := Lib.hid (below_then HB4.out HB4.out.size hB5); clear hB5)))
          go_ret
          exact ⟨rfl, HB5.out⟩
        · have hn9 : l.length ≤ n := by have := hn7 (by omega); omega
          clear hn2 hn3 hn6 hn7
          have d1 : decide (m < (l.length : Int)) = false := decide_eq_false c2
          have d2 : ((n : Int) == (l.length : Int)) = true := beq_iff_eq.mpr (by omega)
          go_enter Try.func5, Try.ntmps5
          go_wp2_with (first
            | (go_at_call 14; ((with_reducible refine HK.out.mono ?_); rintro e w1 ⟨rfl, hB1⟩; have HB1 := Lib.hid hB1; have HV1 := Lib.hid (HV.out w1 hB1); clear hB1))
            | (go_at_call 15; ((with_reducible refine HV1.out.mono ?_); rintro e w2 ⟨rfl, hB2⟩; have HB2 := Lib.hid (below_then HB1.out HB1.out.size hB2); clear hB2))
            | (go_at_call 13; ((with_reducible refine (alive_any _).mono ?_); rintro e w3 ⟨rfl, hB3⟩; have HB3 := Lib.hid (below_then HB2.out HB2.out.size hB3); have HT := Lib.hid (HVT.out w3 HB3.out); clear hB3))
            | (go_at_call 15; ((with_reducible refine HT.out.mono ?_); rintro e w4 ⟨rfl, hB4⟩; have HB4 := Lib.hid (below_then HB3.out HB3.out.size hB4); have HD := Lib.hid (HVD.out w4 HB4.out); clear hB4))
            | (go_at_call 15; ((with_reducible refine HD.out.mono ?_); rintro e w5 ⟨rfl, hB5⟩; have HB5 := Lib.hid (below_then HB4.out HB4.out.size hB5); clear hB5)))
          go_ret
          exact ⟨rfl, HB5.out⟩
end Go.Proofs.Ytgplfamdeifmjaa
