/- The laws QuotedEncodes, QuotedDecodes. -/
import Derived.Test.YtdebimpjbcihhaaQAlive
import Derived.Test.YtdebimpjbcihhaaQPure
namespace Go.Proofs.Ytdebimpjbcihhaa
open Go.RowKit Go.Shelf Go.Proofs.YtdebimpjbcihhaaW.PrintWords

theorem wf_u8 {l : List Int} (h : ∀ n ∈ l, (Lit.int .u8 n).wf = true) : Bytes l := by
  intro x hx
  have h2 := h x hx
  simp only [Lit.wf, Bool.and_eq_true, decide_eq_true_eq] at h2
  exact ⟨h2.1, h2.2⟩
theorem rdigits_b (c : Int) (w : World) (h0 : 0 ≤ c) (h1 : c ≤ 255) : Calls Try.prog 13 #[.int .u8 c] w fun e w' => e = .returned (.string (strOfNums (digB c))) ∧ Below w.heap.size w w' :=
  PQuotedEncodes.posthornref03_Digits.calls c _ w (rdigits_eq c h0 h1)
set_option maxRecDepth 100000 in
set_option maxHeartbeats 1000000 in
theorem decodes_law (s : ByteArray) (w : World) (hs0 : s.size ≤ 140737488351232) :
    Calls Try.prog 4 #[.string s] w fun e w' => e = .returned (.bool true) ∧ Below w.heap.size w w' := by
  by_cases hs : 3000 < s.size
  · go_enter Try.func4, Try.ntmps4
    go_wp2_with (first | (go_at_call 9; ((with_reducible refine (alive_any _).mono ?_); rintro e w1 ⟨rfl, hB1⟩; have HB1 := Lib.hid hB1; clear hB1)))
    go_ret
    exact ⟨rfl, HB1.out⟩
  · have HD1 := Lib.hid (fun W => decode_at s _ W (by omega) rfl)
    have HD2 := Lib.hid (fun W => rdecode_at s _ W (by omega) rfl)
    have hs3 : s.size ≤ 3000 := by omega
    clear hs
    generalize decK (bytesOf s) = dv at *
    obtain ⟨xs, at_, code⟩ := dv
    go_enter Try.func4, Try.ntmps4
    go_wp2_with (first
      | (go_at_call 14; ((with_reducible refine (HD1.out _).mono ?_); rintro e w1 ⟨v1, rfl, hO1, hB1⟩; obtain ⟨A1, c1, rfl, hc1, hr1⟩ := hO1.reads; have HB1 := Lib.hid (below_alloc hB1 (.cells #[.int .i64 at_, .int .i64 code] 30)); have HR1 := Lib.hid (hr1.below (below_first (.cells #[.int .i64 at_, .int .i64 code] 30))); clear hO1 hB1 hr1 hc1))
      | (go_at_call 15; ((with_reducible refine (HD2.out _).mono ?_); rintro e w2 ⟨v2, rfl, hO2, hB2⟩; obtain ⟨A2, c2, rfl, hc2, hr2⟩ := hO2.reads; have HX2 := Lib.hid (below_alloc hB2 (.cells #[.int .i64 at_, .int .i64 code] 30)); have HB2 := Lib.hid (below_then HB1.out HB1.out.size HX2.out); have HR2 := Lib.hid (hr2.below (below_first (.cells #[.int .i64 at_, .int .i64 code] 30))); clear hO2 hB2 hr2 hc2))
      | (go_at_call 9; ((with_reducible refine (alive_any _).mono ?_); rintro e w7 ⟨rfl, hB7⟩; have HB7 := Lib.hid (below_then HB2.out HB2.out.size hB7); have HX7 := Lib.hid (below_then HX2.out HX2.out.size hB7); have d1 : w7.cell? ⟨w1.heap.size, 0, none⟩ = some (.int .i64 at_) := pw_cell_below HX7.out (by go_simp); have d2 : w7.cell? ⟨w1.heap.size, 1, none⟩ = some (.int .i64 code) := pw_cell_below HX7.out (by go_simp); have d3 : w7.cell? ⟨w2.heap.size, 0, none⟩ = some (.int .i64 at_) := pw_cell_below hB7 (by go_simp); have d4 : w7.cell? ⟨w2.heap.size, 1, none⟩ = some (.int .i64 code) := pw_cell_below hB7 (by go_simp); have cv1 := string_of_reads (P := Try.prog) (A := A1) (c := c1) (n := xs.length) Try.underlying22 Try.underlying5 Try.underlying9 (HR1.out.below HX7.out); have cv2 := string_of_reads (P := Try.prog) (A := A2) (c := c2) (n := xs.length) Try.underlying22 Try.underlying5 Try.underlying9 (HR2.out.below hB7); clear hB7)))
    go_ret
    exact ⟨rfl, HB7.out⟩
set_option maxRecDepth 100000 in
set_option maxHeartbeats 1000000 in
theorem encodes_early (A : Option Addr) (l : List Int) (c : Nat) (t : Bool) (ch : Int) (w : World) (hl : l.length ≤ 9223372036854775807) (h : (2000 < l.length ∧ l.length ≤ 1048576) ∨ 1048586 < l.length) :
    Calls Try.prog 3 #[.slice A l.length c, .bool t, .int .u8 ch] w fun e w' => e = .returned (.bool true) ∧ Below w.heap.size w w' := by
  rcases h with ⟨h1, h2⟩ | h
  · go_enter Try.func3, Try.ntmps3
    go_wp2_with (first | (go_at_call 9; ((with_reducible refine (alive_any _).mono ?_); rintro e w1 ⟨rfl, hB1⟩; have HB1 := Lib.hid hB1; clear hB1)))
    go_ret
    exact ⟨rfl, HB1.out⟩
  · go_enter Try.func3, Try.ntmps3
    go_wp2_with (first | (go_at_call 9; ((with_reducible refine (alive_any _).mono ?_); rintro e w1 ⟨rfl, hB1⟩; have HB1 := Lib.hid hB1; clear hB1)))
    go_ret
    exact ⟨rfl, HB1.out⟩
set_option maxRecDepth 100000 in
set_option maxHeartbeats 1000000 in
theorem encodes_law (A : Option Addr) (l : List Int) (c : Nat) (t : Bool) (ch : Int) (w : World) (hr : ReadsInt w .u8 A l.length l) (wl : ∀ n ∈ l, (Lit.int .u8 n).wf = true) (hc : l.length ≤ c) (_ : l.length * 1 ≤ 140737488351232) (wc : (Lit.int .u8 ch).wf = true) :
    Calls Try.prog 3 #[.slice A l.length c, .bool t, .int .u8 ch] w fun e w' => e = .returned (.bool true) ∧ Below w.heap.size w w' := by
  by_cases he : (2000 < l.length ∧ l.length ≤ 1048576) ∨ 1048586 < l.length
  · exact encodes_early A l c t ch w hr.2.1 he
  · have hby := wf_u8 wl
    have hch : 0 ≤ ch ∧ ch ≤ 255 := by
      simp only [Lit.wf, Bool.and_eq_true, decide_eq_true_eq] at wc
      exact ⟨wc.1, wc.2⟩
    have HE1 := Lib.hid (encode_any A l c t w hr hby)
    have HE2 := Lib.hid (fun W (hb : Below w.heap.size w W) => rencode_any A l c t W (hr.below hb) hby hc)
    have HDG := Lib.hid (fun W => digits_any ch W hch.1 hch.2)
    have HDR := Lib.hid (fun W => rdigits_b ch W hch.1 hch.2)
    generalize encK t l = ev at *
    obtain ⟨s, E⟩ := ev
    generalize strOfNums (digB ch) = dg at *
    have hl : l.length ≤ 2000 ∨ (1048577 ≤ l.length ∧ l.length ≤ 1048586) := by omega
    clear he hr hby wl wc hch
    rcases hl with h1 | ⟨h1, h2⟩
    all_goals
      go_enter Try.func3, Try.ntmps3
      go_wp2_with (first
        | (go_at_call 10; ((with_reducible refine HE1.out.mono ?_); rintro e w1 ⟨rfl, hB1⟩; have HB1 := Lib.hid hB1; clear hB1))
        | (go_at_call 11; ((with_reducible refine (HE2.out _ HB1.out).mono ?_); rintro e w2 ⟨rfl, hB2⟩; have HB2 := Lib.hid (below_then HB1.out HB1.out.size hB2); clear hB2))
        | (go_at_call 9; ((with_reducible refine (alive_any _).mono ?_); rintro e w3 ⟨rfl, hB3⟩; have HB3 := Lib.hid (below_then HB2.out HB2.out.size hB3); clear hB3))
        | (go_at_call 12; ((with_reducible refine (HDG.out _).mono ?_); rintro e w4 ⟨rfl, hD4⟩; have HB4 := Lib.hid (below_then HB3.out HB3.out.size hD4.below); clear hD4))
        | (go_at_call 13; ((with_reducible refine (HDR.out _).mono ?_); rintro e w5 ⟨rfl, hB5⟩; have HB5 := Lib.hid (below_then HB4.out HB4.out.size hB5); clear hB5)))
      go_ret
      exact ⟨rfl, HB5.out⟩
end Go.Proofs.Ytdebimpjbcihhaa
