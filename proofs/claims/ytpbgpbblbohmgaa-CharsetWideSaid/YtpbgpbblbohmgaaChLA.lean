/- The law CharsetAscii. -/
import Derived.Test.YtpbgpbblbohmgaaChLY
namespace Go.Proofs.Ytpbgpbblbohmgaa
open Go.RowKit Go.Proofs.YtpbgpbblbohmgaaW.PrintWords

theorem bt_of (s : ByteArray) (i : Nat) (hi : i < s.size) : ((s[i]'hi).toNat : Int) = bt s (i : Int) := by
  have h2 := bt_at s (i : Int) (by simpa using hi)
  simpa using h2
/-- Who is let through at once. -/
theorem ascii_out (s : ByteArray) (A : Option Addr) (l : List Int) (c : Nat) (w : World) (hs : s.size ≤ 140737488351232) (hl : l.length ≤ 9223372036854775807)
    (h : 100 < s.size ∨ (s.size ≤ 100 ∧ 1000 < l.length) ∨ (s.size ≤ 100 ∧ l.length ≤ 1000 ∧ knownV s = false) ∨ (s.size ≤ 100 ∧ l.length ≤ 1000 ∧ knownV s = true ∧ 6 ≤ s.size ∧ bt s 4 = 49 ∧ bt s 5 = 54)) :
    Calls Try.prog 5 #[.string s, .slice A l.length c] w fun e w' => e = .returned (.bool true) ∧ Below w.heap.size w w' := by
  rcases h with h | ⟨h, h2⟩ | ⟨h, h2, hk⟩ | ⟨h, h2, hk, h6, h4, h5⟩
  · go_enter Try.func5, Try.ntmps5
    go_wp2_with (first | (go_at_call 9; ((with_reducible refine (alive_any _).mono ?_); rintro e w1 ⟨rfl, hB1⟩; have HB1 := Lib.hid hB1; clear hB1)))
    go_ret
    exact ⟨rfl, HB1.out⟩
  · go_enter Try.func5, Try.ntmps5
    go_wp2_with (first | (go_at_call 9; ((with_reducible refine (alive_any _).mono ?_); rintro e w1 ⟨rfl, hB1⟩; have HB1 := Lib.hid hB1; clear hB1)))
    go_ret
    exact ⟨rfl, HB1.out⟩
  · have HK := Lib.hid (fun W => known_at s false W (by omega) hk)
    clear hk
    go_enter Try.func5, Try.ntmps5
    go_wp2_with (first
      | (go_at_call 12; ((with_reducible refine (HK.out _).mono ?_); rintro e w1 ⟨rfl, hB1⟩; have HB1 := Lib.hid hB1; clear hB1))
      | (go_at_call 9; ((with_reducible refine (alive_any _).mono ?_); rintro e w2 ⟨rfl, hB2⟩; have HB2 := Lib.hid (below_then HB1.out HB1.out.size hB2); clear hB2)))
    go_ret
    exact ⟨rfl, HB2.out⟩
  · have HK := Lib.hid (fun W => known_at s true W (by omega) hk)
    have e4 : (s[4]'(by omega)).toNat = 49 := at_bt s 4 (by omega) h4
    have e5 : (s[5]'(by omega)).toNat = 54 := at_bt s 5 (by omega) h5
    clear hk h4 h5
    go_enter Try.func5, Try.ntmps5
    go_wp2_with (first
      | (go_at_call 12; ((with_reducible refine (HK.out _).mono ?_); rintro e w1 ⟨rfl, hB1⟩; have HB1 := Lib.hid hB1; clear hB1))
      | (go_at_call 9; ((with_reducible refine (alive_any _).mono ?_); rintro e w2 ⟨rfl, hB2⟩; have HB2 := Lib.hid (below_then HB1.out HB1.out.size hB2); clear hB2)))
    go_ret
    exact ⟨rfl, HB2.out⟩
set_option maxRecDepth 100000 in
set_option maxHeartbeats 4000000 in
theorem ascii_in (s : ByteArray) (A : Option Addr) (l : List Int) (c : Nat) (w : World) (hr : ReadsInt w .u8 A l.length l) (hby : Bytes l) (hc : l.length ≤ c) (h1 : s.size ≤ 100) (h2 : l.length ≤ 1000) (hk : knownV s = true)
    (hn : ¬ (6 ≤ s.size ∧ bt s 4 = 49 ∧ bt s 5 = 54)) :
    Calls Try.prog 5 #[.string s, .slice A l.length c] w fun e w' => e = .returned (.bool true) ∧ Below w.heap.size w w' := by
  have HK := Lib.hid (fun W => known_at s true W (by omega) hk)
  have hf : Single (formV s) ∨ formV s = 2 := by
    have h0 : formV s ≠ 0 := by unfold knownV at hk; simpa using hk
    rcases form_set h0 with h | h | h
    · exact .inl h
    · exact .inr h
    · exact absurd (form_wide h) hn
  have HP := Lib.hid (fun h => ascii_plain s l h hf)
  have HD := Lib.hid (fun W h => decode_any s A l c W h hby hc (by omega) (by omega))
  have HE := Lib.hid (fun W h => encode_any s A l c W h hby hc (by omega) (by omega))
  have HBY := Lib.hid hby
  have HR := Lib.hid hr
  have hcase : (∃ _ : s.size < 6, True) ∨ (∃ (_ : 6 ≤ s.size) (d4 : Nat), (∃ h, (s[4]'h).toNat = d4) ∧ ((d4 : Int) == 49) = false) ∨ (∃ (_ : 6 ≤ s.size) (d4 d5 : Nat), (∃ h, (s[4]'h).toNat = d4) ∧ (∃ h, (s[5]'h).toNat = d5) ∧ ((d4 : Int) == 49) = true ∧ ((d5 : Int) == 54) = false) := by
    by_cases h6 : 6 ≤ s.size
    · right
      have q4 := bt_of s 4 (by omega)
      have q5 := bt_of s 5 (by omega)
      by_cases h4 : bt s 4 = 49
      · exact .inr ⟨h6, _, _, ⟨by omega, rfl⟩, ⟨by omega, rfl⟩, beq_iff_eq.mpr (q4.trans h4), beq_eq_false_iff_ne.mpr (fun h5 => hn ⟨h6, h4, q5.symm.trans h5⟩)⟩
      · exact .inl ⟨h6, _, ⟨by omega, rfl⟩, beq_eq_false_iff_ne.mpr (fun h => h4 (q4.symm.trans h))⟩
    · exact .inl ⟨by omega, trivial⟩
  clear hr hby hc hk hn hf
  rcases hcase with ⟨h6, _⟩ | ⟨h6, d4, ⟨hq4, e4⟩, b4⟩ | ⟨h6, d4, d5, ⟨hq4, e4⟩, ⟨hq5, e5⟩, b4, b5⟩
  all_goals
    go_enter Try.func5, Try.ntmps5
    go_wp2_with (first
      | (go_at_call 12; ((with_reducible refine (HK.out _).mono ?_); rintro e w1 ⟨rfl, hB1⟩; have HB1 := Lib.hid hB1; have HR1 := Lib.hid (HR.out.below hB1); clear hB1)))
    go_loop [5] (fun s5 => ∃ k : Nat, k ≤ l.length ∧ s5 = .int .i64 k ∧ Hid (∀ x ∈ l.take k, x < 128)) (fun s5 => l.length - (intOf s5).toNat)
    case atStart => exact ⟨0, Nat.zero_le _, rfl, Lib.hid (by simp)⟩
    case round =>
      obtain ⟨k, hk, rfl, HA⟩ := hrel
      by_cases hlt : k < l.length
      · obtain ⟨ad, rfl, hcell⟩ := HR1.out.at_ (k : Int) (by omega) (by omega)
        simp only [Int.toNat_natCast] at hcell
        have HTK := Lib.hid (List.take_succ_eq_append_getElem hlt)
        rw [← rd_lt l k hlt] at HTK
        have hcb := HBY.out.rd k
        generalize rd l (k : Int) = x at *
        by_cases hx : 127 < x
        · go_wp2_with (first
            | (go_at_call 9; ((with_reducible refine (alive_any _).mono ?_); rintro e w2 ⟨rfl, hB2⟩; have HB2 := Lib.hid (below_then HB1.out HB1.out.size hB2); clear hB2)))
          go_ret
          exact ⟨rfl, HB2.out⟩
        · go_wp2
          go_round
          case rel => exact ⟨k + 1, hlt, by go_num, Lib.hid (by rw [HTK.out]; intro y hy; rcases List.mem_append.1 hy with hy | hy; exact HA.out y hy; rw [List.mem_singleton] at hy; omega)⟩
          case measure => simp [intOf]; omega
      · have hasc : Asc l := fun x hx => ⟨(HBY.out x hx).1, HA.out x (by rw [show k = l.length by omega, List.take_length]; exact hx)⟩
        obtain ⟨hd, he⟩ := HP.out hasc
        have HD1 := Lib.hid (HD.out _ HR1.out)
        rw [hd] at HD1
        have HE1 := Lib.hid (fun W h => HE.out W h)
        rw [he] at HE1
        clear hd he hasc
        go_wp2_with (first
          | (go_at_call 10; ((with_reducible refine HD1.out.mono ?_); rintro e w2 ⟨v, rfl, hO, hB⟩; obtain ⟨A1, c1, rfl, hc1, hR2⟩ := (hO.alloc (.cells #[.int .i64 0, .int .i64 0] 26)).reads; have HR2 : Hid (ReadsInt (w2.alloc (.cells #[.int .i64 0, .int .i64 0] 26)) .u8 A1 l.length l) := Lib.hid hR2; have HX2 := Lib.hid (below_alloc hB (.cells #[.int .i64 0, .int .i64 0] 26)); have HB2 := Lib.hid (below_then HB1.out HB1.out.size HX2.out); have HG2 := Lib.hid (heap_alloc_new w2 (.cells #[.int .i64 0, .int .i64 0] 26)); clear hO hB hR2 hc1))
          | (go_at_call 14; ((with_reducible refine (HE1.out _ (HR.out.below HB2.out)).mono ?_); rintro e w3 ⟨v3, rfl, hO3, hB3⟩; obtain ⟨A3, c3, rfl, hc3, hR3⟩ := (hO3.alloc (.cells #[.int .i64 0, .int .i64 0] 26)).reads; have HR3 : Hid (ReadsInt (w3.alloc (.cells #[.int .i64 0, .int .i64 0] 26)) .u8 A3 l.length l) := Lib.hid hR3; have HX3 := Lib.hid (below_alloc hB3 (.cells #[.int .i64 0, .int .i64 0] 26)); have HB3 := Lib.hid (below_then HB2.out HB2.out.size HX3.out); have HR2b := Lib.hid (HR2.out.below HX3.out); have HG2b := Lib.hid (blk_below HG2.out HX3.out); clear hO3 hB3 hR3 hc3))
          | (go_at_call 9; ((with_reducible refine (alive_keep _ _ _ _ (heap_alloc_new w3 (.cells #[.int .i64 0, .int .i64 0] 26))).mono ?_); rintro e w5 ⟨rfl, hB5, hb5⟩; have kc1 := string_of_reads (P := Try.prog) (c := c1) Try.underlying22 Try.underlying5 Try.underlying9 (HR2b.out.below hB5); have kc2 := string_of_reads (P := Try.prog) (c := c3) Try.underlying22 Try.underlying5 Try.underlying9 (HR3.out.below hB5); have kc4 := string_of_reads (P := Try.prog) (c := c) Try.underlying22 Try.underlying5 Try.underlying9 ((HR.out.below HB3.out).below hB5); have hg5 := blk_below HG2b.out hB5; have k4 : w5.cell? ⟨w2.heap.size, 1, none⟩ = some (.int .i64 0) := (blk_cell hg5 1).trans rfl; have k5 : w5.cell? ⟨w3.heap.size, 1, none⟩ = some (.int .i64 0) := (blk_cell hb5 1).trans rfl; have HB5 := Lib.hid (below_then HB3.out HB3.out.size hB5); clear hB5 hb5 hg5)))
        go_ret
        exact ⟨rfl, HB5.out⟩
theorem ascii_law (s : ByteArray) (A : Option Addr) (l : List Int) (c : Nat) (w : World) (hs : s.size ≤ 140737488351232) (hr : ReadsInt w .u8 A l.length l) (wl : ∀ n ∈ l, (Lit.int .u8 n).wf = true) (hc : l.length ≤ c) (_ : l.length * 1 ≤ 140737488351232) :
    Calls Try.prog 5 #[.string s, .slice A l.length c] w fun e w' => e = .returned (.bool true) ∧ Below w.heap.size w w' := by
  by_cases h1 : 100 < s.size
  · exact ascii_out s A l c w hs hr.2.1 (.inl h1)
  by_cases h2 : 1000 < l.length
  · exact ascii_out s A l c w hs hr.2.1 (.inr (.inl ⟨by omega, h2⟩))
  rcases hk : knownV s with _ | _
  · exact ascii_out s A l c w hs hr.2.1 (.inr (.inr (.inl ⟨by omega, by omega, hk⟩)))
  · by_cases hn : 6 ≤ s.size ∧ bt s 4 = 49 ∧ bt s 5 = 54
    · exact ascii_out s A l c w hs hr.2.1 (.inr (.inr (.inr ⟨by omega, by omega, hk, hn⟩)))
    · exact ascii_in s A l c w hr (wf_u8 wl) hc (by omega) (by omega) hk hn
end Go.Proofs.Ytpbgpbblbohmgaa
