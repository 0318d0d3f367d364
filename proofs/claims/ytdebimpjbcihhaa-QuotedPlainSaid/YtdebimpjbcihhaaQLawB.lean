/- The laws QuotedBack, QuotedAgain. -/
import Derived.Test.YtdebimpjbcihhaaQLawD
namespace Go.Proofs.Ytdebimpjbcihhaa
open Go.RowKit Go.Shelf Go.Proofs.YtdebimpjbcihhaaW.PrintWords

set_option maxRecDepth 100000 in
set_option maxHeartbeats 1000000 in
theorem back_early (A : Option Addr) (l : List Int) (c : Nat) (t : Bool) (w : World) (hl : l.length ≤ 9223372036854775807) (h : 4000 < l.length) :
    Calls Try.prog 5 #[.slice A l.length c, .bool t] w fun e w' => e = .returned (.bool true) ∧ Below w.heap.size w w' := by
  go_enter Try.func5, Try.ntmps5
  go_wp2_with (first | (go_at_call 9; ((with_reducible refine (alive_any _).mono ?_); rintro e w1 ⟨rfl, hB1⟩; have HB1 := Lib.hid hB1; clear hB1)))
  go_ret
  exact ⟨rfl, HB1.out⟩
set_option maxRecDepth 100000 in
set_option maxHeartbeats 1000000 in
theorem back_law (A : Option Addr) (l : List Int) (c : Nat) (t : Bool) (w : World) (hr : ReadsInt w .u8 A l.length l) (wl : ∀ n ∈ l, (Lit.int .u8 n).wf = true) (hc : l.length ≤ c) (_ : l.length * 1 ≤ 140737488351232) :
    Calls Try.prog 5 #[.slice A l.length c, .bool t] w fun e w' => e = .returned (.bool true) ∧ Below w.heap.size w w' := by
  by_cases h4 : 4000 < l.length
  · exact back_early A l c t w hr.2.1 h4
  · have hby := wf_u8 wl
    have h4' : l.length ≤ 4000 := by omega
    have HE := Lib.hid (encode_ok A l c t w hr hby (by omega))
    have hlen := encQ_len t l
    have HD := Lib.hid (fun W => decode_at (strOfNums (encQ t l l.length 0 0)) (l, 0, 0) W (by rw [sn_size]; omega) (by rw [bytesOf_str _ (encQ_bytes t l hby)]; exact dec_back t l hby))
    have HR := Lib.hid hr
    clear h4 hby wl hr hlen
    generalize strOfNums (encQ t l l.length 0 0) = s at *
    go_enter Try.func5, Try.ntmps5
    go_wp2_with (first
      | (go_at_call 10; ((with_reducible refine HE.out.mono ?_); rintro e w1 ⟨rfl, hB1⟩; have HB1 := Lib.hid hB1; clear hB1))
      | (go_at_call 14; ((with_reducible refine (HD.out _).mono ?_); rintro e w2 ⟨v2, rfl, hO2, hB2⟩; obtain ⟨A2, c2, rfl, hc2, hr2⟩ := hO2.reads; have HX2 := Lib.hid (below_alloc hB2 (.cells #[.int .i64 0, .int .i64 0] 30)); have HB2 := Lib.hid (below_then HB1.out HB1.out.size HX2.out); have HR2 := Lib.hid (hr2.below (below_first (.cells #[.int .i64 0, .int .i64 0] 30))); clear hO2 hB2 hr2 hc2))
      | (go_at_call 9; ((with_reducible refine (alive_any _).mono ?_); rintro e w7 ⟨rfl, hB7⟩; have HB7 := Lib.hid (below_then HB2.out HB2.out.size hB7); have d3 : w7.cell? ⟨w2.heap.size, 0, none⟩ = some (.int .i64 0) := pw_cell_below hB7 (by go_simp); have d4 : w7.cell? ⟨w2.heap.size, 1, none⟩ = some (.int .i64 0) := pw_cell_below hB7 (by go_simp); have hz : w2.heap.size < w7.heap.size := blk_lt (blk_below (heap_alloc_new w2 _) hB7); have cv1 := string_of_reads (P := Try.prog) (A := A2) (c := c2) (n := l.length) Try.underlying22 Try.underlying5 Try.underlying9 (HR2.out.below hB7); have cv2 := string_of_reads (P := Try.prog) (A := A) (c := c) (n := l.length) Try.underlying22 Try.underlying5 Try.underlying9 (HR.out.below HB7.out); clear hB7)))
    go_ret
    exact ⟨rfl, HB7.out⟩
set_option maxRecDepth 100000 in
set_option maxHeartbeats 1000000 in
theorem again_law (s : ByteArray) (w : World) (hs0 : s.size ≤ 140737488351232) :
    Calls Try.prog 7 #[.string s] w fun e w' => e = .returned (.bool true) ∧ Below w.heap.size w w' := by
  by_cases hs : 3000 < s.size
  · go_enter Try.func7, Try.ntmps7
    go_wp2_with (first | (go_at_call 9; ((with_reducible refine (alive_any _).mono ?_); rintro e w1 ⟨rfl, hB1⟩; have HB1 := Lib.hid hB1; clear hB1)))
    go_ret
    exact ⟨rfl, HB1.out⟩
  · have HD1 := Lib.hid (fun W => decode_at s _ W (by omega) rfl)
    have hs3 : s.size ≤ 3000 := by omega
    have hout := decQ_out (bytesOf s) (bytesOf_bytes s) (bytesOf s).length 0 [] (fun x hx => by cases hx) (by omega)
    rw [show decQ (bytesOf s) (bytesOf s).length 0 [] = decK (bytesOf s) from rfl, bytesOf_length] at hout
    clear hs
    generalize decK (bytesOf s) = dv at *
    obtain ⟨xs, at_, code⟩ := dv
    simp only at hout
    rcases hout with ⟨rfl, rfl, hby, hlen⟩ | ⟨hcode, rfl, hat0, hat1⟩
    · have hx3 : xs.length ≤ 3000 := by simp at hlen; omega
      have hxs : xs.length ≤ s.size := by simp at hlen; omega
      have HEN := Lib.hid (fun (A1 : Option Addr) (c1 : Nat) (W : World) (h1 : ReadsInt W .u8 A1 xs.length xs) => encode_ok A1 xs c1 false W h1 hby (by omega))
      have hel := encQ_len false xs
      have HD := Lib.hid (fun W => decode_at (strOfNums (encQ false xs xs.length 0 0)) (xs, 0, 0) W (by rw [sn_size]; omega) (by rw [bytesOf_str _ (encQ_bytes false xs hby)]; exact dec_back false xs hby))
      clear hlen hel hby
      generalize strOfNums (encQ false xs xs.length 0 0) = t at *
      go_enter Try.func7, Try.ntmps7
      go_wp2_with (first
        | (go_at_call 14; ((with_reducible refine (HD1.out _).mono ?_); rintro e w1 ⟨v1, rfl, hO1, hB1⟩; obtain ⟨A1, c1, rfl, hc1, hr1⟩ := hO1.reads; have HB1 := Lib.hid (below_alloc hB1 (.cells #[.int .i64 0, .int .i64 0] 30)); have HR1 := Lib.hid (hr1.below (below_first (.cells #[.int .i64 0, .int .i64 0] 30))); have HE1 := Lib.hid (HEN.out A1 c1 _ HR1.out); clear hO1 hB1 hr1 hc1))
        | (go_at_call 10; ((with_reducible refine HE1.out.mono ?_); rintro e w2 ⟨rfl, hB2⟩; have HB2 := Lib.hid (below_then HB1.out HB1.out.size hB2); have HR2 := Lib.hid (HR1.out.below hB2); clear hB2))
        | (go_at_call 14; ((with_reducible refine (HD.out _).mono ?_); rintro e w3 ⟨v3, rfl, hO3, hB3⟩; obtain ⟨A3, c3, rfl, hc3, hr3⟩ := hO3.reads; have HX3 := Lib.hid (below_alloc hB3 (.cells #[.int .i64 0, .int .i64 0] 30)); have HB3 := Lib.hid (below_then HB2.out HB2.out.size HX3.out); have HR3 := Lib.hid (hr3.below (below_first (.cells #[.int .i64 0, .int .i64 0] 30))); have HR4 := Lib.hid (HR2.out.below HX3.out); clear hO3 hB3 hr3 hc3))
        | (go_at_call 9; ((with_reducible refine (alive_any _).mono ?_); rintro e w7 ⟨rfl, hB7⟩; have HB7 := Lib.hid (below_then HB3.out HB3.out.size hB7); have d3 : w7.cell? ⟨w3.heap.size, 0, none⟩ = some (.int .i64 0) := pw_cell_below hB7 (by go_simp); have d4 : w7.cell? ⟨w3.heap.size, 1, none⟩ = some (.int .i64 0) := pw_cell_below hB7 (by go_simp); have cv1 := string_of_reads (P := Try.prog) (A := A1) (c := c1) (n := xs.length) Try.underlying22 Try.underlying5 Try.underlying9 (HR4.out.below hB7); have cv2 := string_of_reads (P := Try.prog) (A := A3) (c := c3) (n := xs.length) Try.underlying22 Try.underlying5 Try.underlying9 (HR3.out.below hB7); clear hB7)))
      go_ret
      exact ⟨by simp, HB7.out⟩
    · have b1 : (code != 0) = true := bne_iff_ne.mpr hcode
      clear hcode
      go_enter Try.func7, Try.ntmps7
      go_wp2_with (first
        | (go_at_call 14; ((with_reducible refine (HD1.out _).mono ?_); rintro e w1 ⟨v1, rfl, hO1, hB1⟩; obtain ⟨A1, c1, rfl, hc1, hr1⟩ := hO1.reads; have HB1 := Lib.hid (below_alloc hB1 (.cells #[.int .i64 at_, .int .i64 code] 30)); clear hO1 hB1 hr1 hc1))
        | (go_at_call 9; ((with_reducible refine (alive_any _).mono ?_); rintro e w7 ⟨rfl, hB7⟩; have HB7 := Lib.hid (below_then HB1.out HB1.out.size hB7); have d1 : w7.cell? ⟨w1.heap.size, 0, none⟩ = some (.int .i64 at_) := pw_cell_below hB7 (by go_simp); have d2 : w7.cell? ⟨w1.heap.size, 1, none⟩ = some (.int .i64 code) := pw_cell_below hB7 (by go_simp); clear hB7)))
      go_ret
      exact ⟨rfl, HB7.out⟩
end Go.Proofs.Ytdebimpjbcihhaa
