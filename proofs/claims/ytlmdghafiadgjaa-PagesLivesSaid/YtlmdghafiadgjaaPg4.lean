/- pages: slices.Clone, ContainsFunc, walked at bytes. -/
import Derived.Test.YtlmdghafiadgjaaPg3
import Derived.Lib.SliceRun
namespace Go.Proofs.Ytlmdghafiadgjaa
set_option linter.unusedVariables false
set_option linter.unusedSimpArgs false
open Go.RowKit Go.Proofs.YtlmdghafiadgjaaW.PrintWords Go.Proofs.YtlmdghafiadgjaaW.PrintLast

theorem empty_slice (W : World) : (Instr.buildSlice 23 0 #[]).run Try.prog W = .ok (.slice (some ⟨W.heap.size, 0, none⟩) 0 0) (W.alloc (.cells #[] 5)) := by kernel_rfl
theorem eql_nil (w : World) (a : Option Addr) (n c n' c' : Nat) : (binOp .eql 23 (.slice a n c) (.slice none n' c')).run Try.prog w = .ok (.bool a.isNone) w := Lib.run_eql_slice_nil w _ _ a n c n' c' Try.underlying23
set_option maxRecDepth 100000 in
set_option maxHeartbeats 1000000 in
theorem clone_any (A : Option Addr) (n c : Nat) (xs : List Int) (w : World) (h : ReadsInt w .u8 A n xs) (hn : n ≤ 100000) :
    Calls Try.prog 39 #[.slice A n c] w fun e w' => ∃ v, e = .returned v ∧ ORow .u8 5 w' w.heap.size v xs ∧ Below w.heap.size w w' := by
  have hl := h.1
  have HR := Lib.hid h
  have hq := eql_nil
  rcases A with _ | ad
  · have h0 : n = 0 := by
      rcases Nat.eq_zero_or_pos n with h0 | h0
      · exact h0
      · obtain ⟨ad, h1, _⟩ := h.2.2 h0
        cases h1
    subst h0
    obtain rfl : xs = [] := List.eq_nil_of_length_eq_zero hl
    clear h HR
    go_enter Try.func39, Try.ntmps39
    go_wp2
    go_ret
    exact ⟨_, rfl, ORow.nil _ _ _ _, Below.refl _ _⟩
  · have he := empty_slice
    have HE : Hid (ORow .u8 5 (w.alloc (.cells #[] 5)) w.heap.size (.slice (some ⟨w.heap.size, 0, none⟩) 0 0) []) := Lib.hid (ORow.lit .u8 5 w w.heap.size [] #[] 0 _ rfl rfl rfl (Nat.le_refl _) (by decide))
    have HR1 := Lib.hid (reads_below8 h (below_first (w := w) (.cells #[] 5)))
    have HB1 := Lib.hid (below_first (w := w) (.cells #[] 5))
    have HSZ : Hid (w.heap.size ≤ (w.alloc (.cells #[] 5)).heap.size) := Lib.hid (by simp)
    clear h HR
    go_enter Try.func39, Try.ntmps39
    go_wp2_with (first
      | (at_builtin; refine print_append_row (w0 := w) w.heap.size rfl (.tmp 5) (.tmp 6) 23 5 .u8 1 rfl Try.underlying23 infoU8 (by decide) _ [] xs _ _ _ rfl rfl HE.out HR1.out HB1.out HSZ.out (by simp; omega) ?_; intro v1 w1 hO1 hB1 _ _; have HO1 := Lib.hid hO1; have HB2 := Lib.hid hB1; clear hO1 hB1))
    go_ret
    exact ⟨v1, rfl, by have h := HO1.out; rw [List.nil_append] at h; exact h, HB2.out⟩
set_option maxRecDepth 100000 in
set_option maxHeartbeats 400000 in
theorem nz_u (c : Int) (w : World) : Calls Try.prog 38 #[.int .u8 c] w fun e w' => e = .returned (.bool (c != 0)) ∧ w = w' := by
  go_enter Try.func38, Try.ntmps38
  go_wp2
  go_ret
  exact ⟨rfl, rfl⟩
set_option maxRecDepth 100000 in
set_option maxHeartbeats 1000000 in
theorem index_u (A : Option Addr) (n c : Nat) (xs : List Int) (w : World) (h : ReadsInt w .u8 A n xs) :
    Calls Try.prog 54 #[.slice A n c, .func (.func 38) #[] #[]] w fun e w' => (∃ r : Int, e = .returned (.int .i64 r) ∧ decide (0 ≤ r) = xs.any (fun c => c != 0)) ∧ w = w' := by
  have hl := h.1
  have H := Lib.hid h
  have HN := Lib.hid (fun c W => nz_u c W)
  have hmx := h.2.1
  clear h
  go_enter Try.func54, Try.ntmps54
  go_wp2
  go_loop [8] (fun s8 => ∃ k : Nat, k ≤ n ∧ s8 = .int .i64 k ∧ Hid ((xs.take k).any (fun c => c != 0) = false)) (fun s8 => n - (intOf s8).toNat)
  case atStart => exact ⟨0, Nat.zero_le _, rfl, Lib.hid rfl⟩
  case round =>
    obtain ⟨k, hk, rfl, HA⟩ := hrel
    by_cases hlt : k < n
    · obtain ⟨ad, rfl, hc⟩ := H.out.2.2 (by omega)
      have hcj := hc k hlt
      rw [show (.int .u8 (xs.getD k 0) : Value) = .int .u8 (rd xs (k : Int)) from by simp [rd]] at hcj
      have hts := List.take_succ_eq_append_getElem (l := xs) (i := k) (by omega)
      rw [← rd_lt xs k (by omega)] at hts
      have HTS := Lib.hid hts
      have HMEM : Hid (rd xs (k : Int) ∈ xs) := Lib.hid (by rw [rd_lt xs k (by omega)]; exact List.getElem_mem _)
      clear hc hts
      generalize rd xs (k : Int) = u at *
      by_cases hu : u = 0
      · subst hu
        have HA2 : Hid ((xs.take (k + 1)).any (fun c => c != 0) = false) := Lib.hid (by rw [HTS.out, List.any_append, HA.out]; rfl)
        go_wp2_with (first | (go_at_call 38; ((with_reducible refine (HN.out _ _).mono ?_); rintro e w1 ⟨rfl, rfl⟩)))
        go_round
        case rel => exact ⟨k + 1, by omega, by go_num, HA2⟩
        case measure => simp [intOf]; omega
      · have hub : (u != 0) = true := bne_iff_ne.mpr hu
        go_wp2_with (first | (go_at_call 38; ((with_reducible refine (HN.out _ _).mono ?_); rintro e w1 ⟨rfl, rfl⟩)))
        go_ret
        exact ⟨⟨k, rfl, by rw [List.any_eq_true.2 ⟨u, HMEM.out, hub⟩]; simp⟩, rfl⟩
    · obtain rfl : k = n := by omega
      have HA2 : Hid (xs.any (fun c => c != 0) = false) := Lib.hid (by have h := HA.out; rwa [List.take_of_length_le (by omega)] at h)
      go_wp2
      go_ret
      exact ⟨⟨-1, rfl, by rw [HA2.out]; rfl⟩, rfl⟩
set_option maxRecDepth 100000 in
set_option maxHeartbeats 400000 in
theorem contains_u (A : Option Addr) (n c : Nat) (xs : List Int) (w : World) (h : ReadsInt w .u8 A n xs) :
    Calls Try.prog 37 #[.slice A n c, .func (.func 38) #[] #[]] w fun e w' => e = .returned (.bool (xs.any (fun c => c != 0))) ∧ w = w' := by
  have HI := Lib.hid (index_u A n c xs w h)
  clear h
  go_enter Try.func37, Try.ntmps37
  go_wp2_with (first | (go_at_call 54; ((with_reducible refine HI.out.mono ?_); rintro e w1 ⟨⟨r, rfl, hr⟩, rfl⟩; have HRR := Lib.hid hr; clear hr)))
  go_ret
  exact ⟨by rw [← HRR.out]; rfl, rfl⟩
set_option maxRecDepth 100000 in
set_option maxHeartbeats 400000 in
theorem nz_o (c : Int) (w : World) : Calls Try.prog 43 #[.int .u8 c] w fun e w' => e = .returned (.bool (c != 0)) ∧ w = w' := by
  go_enter Try.func43, Try.ntmps43
  go_wp2
  go_ret
  exact ⟨rfl, rfl⟩
set_option maxRecDepth 100000 in
set_option maxHeartbeats 1000000 in
theorem index_o (A : Option Addr) (n c : Nat) (xs : List Int) (w : World) (h : ReadsInt w .u8 A n xs) :
    Calls Try.prog 54 #[.slice A n c, .func (.func 43) #[] #[]] w fun e w' => (∃ r : Int, e = .returned (.int .i64 r) ∧ decide (0 ≤ r) = xs.any (fun c => c != 0)) ∧ w = w' := by
  have hl := h.1
  have H := Lib.hid h
  have HN := Lib.hid (fun c W => nz_o c W)
  have hmx := h.2.1
  clear h
  go_enter Try.func54, Try.ntmps54
  go_wp2
  go_loop [8] (fun s8 => ∃ k : Nat, k ≤ n ∧ s8 = .int .i64 k ∧ Hid ((xs.take k).any (fun c => c != 0) = false)) (fun s8 => n - (intOf s8).toNat)
  case atStart => exact ⟨0, Nat.zero_le _, rfl, Lib.hid rfl⟩
  case round =>
    obtain ⟨k, hk, rfl, HA⟩ := hrel
    by_cases hlt : k < n
    · obtain ⟨ad, rfl, hc⟩ := H.out.2.2 (by omega)
      have hcj := hc k hlt
      rw [show (.int .u8 (xs.getD k 0) : Value) = .int .u8 (rd xs (k : Int)) from by simp [rd]] at hcj
      have hts := List.take_succ_eq_append_getElem (l := xs) (i := k) (by omega)
      rw [← rd_lt xs k (by omega)] at hts
      have HTS := Lib.hid hts
      have HMEM : Hid (rd xs (k : Int) ∈ xs) := Lib.hid (by rw [rd_lt xs k (by omega)]; exact List.getElem_mem _)
      clear hc hts
      generalize rd xs (k : Int) = u at *
      by_cases hu : u = 0
      · subst hu
        have HA2 : Hid ((xs.take (k + 1)).any (fun c => c != 0) = false) := Lib.hid (by rw [HTS.out, List.any_append, HA.out]; rfl)
        go_wp2_with (first | (go_at_call 43; ((with_reducible refine (HN.out _ _).mono ?_); rintro e w1 ⟨rfl, rfl⟩)))
        go_round
        case rel => exact ⟨k + 1, by omega, by go_num, HA2⟩
        case measure => simp [intOf]; omega
      · have hub : (u != 0) = true := bne_iff_ne.mpr hu
        go_wp2_with (first | (go_at_call 43; ((with_reducible refine (HN.out _ _).mono ?_); rintro e w1 ⟨rfl, rfl⟩)))
        go_ret
        exact ⟨⟨k, rfl, by rw [List.any_eq_true.2 ⟨u, HMEM.out, hub⟩]; simp⟩, rfl⟩
    · obtain rfl : k = n := by omega
      have HA2 : Hid (xs.any (fun c => c != 0) = false) := Lib.hid (by have h := HA.out; rwa [List.take_of_length_le (by omega)] at h)
      go_wp2
      go_ret
      exact ⟨⟨-1, rfl, by rw [HA2.out]; rfl⟩, rfl⟩
set_option maxRecDepth 100000 in
set_option maxHeartbeats 400000 in
theorem contains_o (A : Option Addr) (n c : Nat) (xs : List Int) (w : World) (h : ReadsInt w .u8 A n xs) :
    Calls Try.prog 37 #[.slice A n c, .func (.func 43) #[] #[]] w fun e w' => e = .returned (.bool (xs.any (fun c => c != 0))) ∧ w = w' := by
  have HI := Lib.hid (index_o A n c xs w h)
  clear h
  go_enter Try.func37, Try.ntmps37
  go_wp2_with (first | (go_at_call 54; ((with_reducible refine HI.out.mono ?_); rintro e w1 ⟨⟨r, rfl, hr⟩, rfl⟩; have HRR := Lib.hid hr; clear hr)))
  go_ret
  exact ⟨by rw [← HRR.out]; rfl, rfl⟩
end Go.Proofs.Ytlmdghafiadgjaa
