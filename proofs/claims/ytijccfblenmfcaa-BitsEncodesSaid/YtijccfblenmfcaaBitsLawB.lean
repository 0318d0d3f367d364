/- The laws BitsBack, BitsOnce, BitsJoins. -/
import Derived.Test.YtijccfblenmfcaaBitsAlive
import Derived.Test.YtijccfblenmfcaaBitsPure2
namespace Go.Proofs.Ytijccfblenmfcaa
open Go.RowKit Go.Shelf Go.Proofs.YtijccfblenmfcaaW.PrintWords

theorem wf_u8 {l : List Int} (h : ∀ n ∈ l, (Lit.int .u8 n).wf = true) : Bytes l := by
  intro x hx
  have h2 := h x hx
  simp only [Lit.wf, Bool.and_eq_true, decide_eq_true_eq] at h2
  exact ⟨h2.1, h2.2⟩
theorem str_nil (s : ByteArray) (h : bytesOf s = []) : s.toList = [] := by
  have h1 : (bytesOf s).length = 0 := by rw [h]; rfl
  rw [Go.ByteArray.toList_eq]
  apply List.eq_nil_of_length_eq_zero
  simpa [bytesOf] using h1
set_option maxRecDepth 100000 in
set_option maxHeartbeats 1000000 in
theorem back_early (A : Option Addr) (l : List Int) (c : Nat) (m : Int) (w : World) (hl : l.length ≤ 9223372036854775807) (h : 4000 < l.length) :
    Calls Try.prog 4 #[.slice A l.length c, .int .i64 m] w fun e w' => e = .returned (.bool true) ∧ Below w.heap.size w w' := by
  go_enter Try.func4, Try.ntmps4
  go_wp2_with (first | (go_at_call 9; ((with_reducible refine (alive_any _).mono ?_); rintro e w1 ⟨rfl, hB1⟩; have HB1 := Lib.hid hB1; clear hB1)))
  go_ret
  exact ⟨rfl, HB1.out⟩
set_option maxRecDepth 100000 in
set_option maxHeartbeats 1000000 in
theorem back_law (A : Option Addr) (l : List Int) (c : Nat) (m : Int) (w : World) (hr : ReadsInt w .u8 A l.length l) (wl : ∀ n ∈ l, (Lit.int .u8 n).wf = true) (hc : l.length ≤ c) (_ : l.length * 1 ≤ 140737488351232) (_ : (Lit.int .i64 m).wf = true) :
    Calls Try.prog 4 #[.slice A l.length c, .int .i64 m] w fun e w' => e = .returned (.bool true) ∧ Below w.heap.size w w' := by
  by_cases h4 : 4000 < l.length
  · exact back_early A l c m w hr.2.1 h4
  · have hby := wf_u8 wl
    have h4' : l.length ≤ 4000 := by omega
    clear h4
    rcases fits_cases (l.length : Int) m with h | h | ⟨h, hm0, hm1, hm4, _, _⟩
    · have HE := Lib.hid (encode_no A l.length c m 1 w h (.inl rfl))
      clear h
      go_enter Try.func4, Try.ntmps4
      go_wp2_with (first
        | (go_at_call 12; ((with_reducible refine HE.out.mono ?_); rintro e w1 ⟨rfl, hB1⟩; have HB1 := Lib.hid hB1; clear hB1))
        | (go_at_call 9; ((with_reducible refine (alive_any _).mono ?_); rintro e w2 ⟨rfl, hB2⟩; have HB2 := Lib.hid (below_then HB1.out HB1.out.size hB2); clear hB2)))
      go_ret
      exact ⟨rfl, HB2.out⟩
    · exfalso
      unfold fitsV at h
      split at h
      · omega
      · split at h <;> omega
    · have HE := Lib.hid (encode_ok A l c m w hr hby hc h ⟨hm0, hm1⟩ (by omega))
      have hlen := encL_len m l.length l 0
      have HD := Lib.hid (fun W => decode_at (strOfNums (encL m l.length l 0)) _ W (by simp only [strOfNums, ByteArray.size, List.size_toArray, List.length_map]; omega) (dec_back m l hby (by omega)))
      have HR := Lib.hid hr
      clear h hby wl hm0 hm1 hm4 hr hlen
      generalize strOfNums (encL m l.length l 0) = s at *
      go_enter Try.func4, Try.ntmps4
      go_wp2_with (first
        | (go_at_call 12; ((with_reducible refine HE.out.mono ?_); rintro e w1 ⟨rfl, hB1⟩; have HB1 := Lib.hid hB1; clear hB1))
        | (go_at_call 10; ((with_reducible refine (HD.out _).mono ?_); rintro e w2 ⟨v2, rfl, hO2, hB2⟩; obtain ⟨A2, c2, rfl, hc2, hr2⟩ := hO2.reads; have HX2 := Lib.hid (below_alloc hB2 (.cells #[.int .i64 0, .int .i64 0] 26)); have HB2 := Lib.hid (below_then HB1.out HB1.out.size HX2.out); have HR2 := Lib.hid (hr2.below (below_first (.cells #[.int .i64 0, .int .i64 0] 26))); clear hO2 hB2 hr2 hc2))
        | (go_at_call 9; ((with_reducible refine (alive_any _).mono ?_); rintro e w7 ⟨rfl, hB7⟩; have HB7 := Lib.hid (below_then HB2.out HB2.out.size hB7); have d3 : w7.cell? ⟨w2.heap.size, 0, none⟩ = some (.int .i64 0) := pw_cell_below hB7 (by go_simp); have d4 : w7.cell? ⟨w2.heap.size, 1, none⟩ = some (.int .i64 0) := pw_cell_below hB7 (by go_simp); have hz : w2.heap.size < w7.heap.size := blk_lt (blk_below (heap_alloc_new w2 _) hB7); have cv1 := string_of_reads (P := Try.prog) (A := A2) (c := c2) (n := l.length) Try.underlying23 Try.underlying5 Try.underlying9 (HR2.out.below hB7); have cv2 := string_of_reads (P := Try.prog) (A := A) (c := c) (n := l.length) Try.underlying23 Try.underlying5 Try.underlying9 (HR.out.below HB7.out); clear hB7)))
      go_ret
      exact ⟨rfl, HB7.out⟩
end Go.Proofs.Ytijccfblenmfcaa
