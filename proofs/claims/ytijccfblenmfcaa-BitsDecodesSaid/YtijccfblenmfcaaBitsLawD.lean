/- The law BitsDecodes. -/
import Derived.Test.YtijccfblenmfcaaBitsAlive
namespace Go.Proofs.Ytijccfblenmfcaa
open Go.RowKit Go.Shelf Go.Proofs.YtijccfblenmfcaaW.PrintWords

set_option maxRecDepth 100000 in
set_option maxHeartbeats 1000000 in
theorem decodes_law (s : ByteArray) (w : World) (hs0 : s.size ≤ 140737488351232) :
    Calls Try.prog 3 #[.string s] w fun e w' => e = .returned (.bool true) ∧ Below w.heap.size w w' := by
  by_cases hs : 3000 < s.size
  · go_enter Try.func3, Try.ntmps3
    go_wp2_with (first | (go_at_call 9; ((with_reducible refine (alive_any _).mono ?_); rintro e w1 ⟨rfl, hB1⟩; have HB1 := Lib.hid hB1; clear hB1)))
    go_ret
    exact ⟨rfl, HB1.out⟩
  · have HD1 := Lib.hid (fun W => decode_at s _ W (by omega) rfl)
    have HD2 := Lib.hid (fun W => ref_decode s _ W (by omega) rfl)
    have hs3 : s.size ≤ 3000 := by omega
    clear hs
    generalize decV (bytesOf s) = dv at *
    obtain ⟨xs, at_, code⟩ := dv
    go_enter Try.func3, Try.ntmps3
    go_wp2_with (first
      | (go_at_call 10; ((with_reducible refine (HD1.out _).mono ?_); rintro e w1 ⟨v1, rfl, hO1, hB1⟩; obtain ⟨A1, c1, rfl, hc1, hr1⟩ := hO1.reads; have HB1 := Lib.hid (below_alloc hB1 (.cells #[.int .i64 at_, .int .i64 code] 26)); have HR1 := Lib.hid (hr1.below (below_first (.cells #[.int .i64 at_, .int .i64 code] 26))); clear hO1 hB1 hr1 hc1))
      | (go_at_call 11; ((with_reducible refine (HD2.out _).mono ?_); rintro e w2 ⟨v2, rfl, hO2, hB2⟩; obtain ⟨A2, c2, rfl, hc2, hr2⟩ := hO2.reads; have HX2 := Lib.hid (below_alloc hB2 (.cells #[.int .i64 at_, .int .i64 code] 26)); have HB2 := Lib.hid (below_then HB1.out HB1.out.size HX2.out); have HR2 := Lib.hid (hr2.below (below_first (.cells #[.int .i64 at_, .int .i64 code] 26))); clear hO2 hB2 hr2 hc2))
      | (go_at_call 9; ((with_reducible refine (alive_any _).mono ?_); rintro e w7 ⟨rfl, hB7⟩; have HB7 := Lib.hid (below_then HB2.out HB2.out.size hB7); have HX7 := Lib.hid (below_then HX2.out HX2.out.size hB7); have d1 : w7.cell? ⟨w1.heap.size, 0, none⟩ = some (.int .i64 at_) := pw_cell_below HX7.out (by go_simp); have d2 : w7.cell? ⟨w1.heap.size, 1, none⟩ = some (.int .i64 code) := pw_cell_below HX7.out (by go_simp); have d3 : w7.cell? ⟨w2.heap.size, 0, none⟩ = some (.int .i64 at_) := pw_cell_below hB7 (by go_simp); have d4 : w7.cell? ⟨w2.heap.size, 1, none⟩ = some (.int .i64 code) := pw_cell_below hB7 (by go_simp); have cv1 := string_of_reads (P := Try.prog) (A := A1) (c := c1) (n := xs.length) Try.underlying23 Try.underlying5 Try.underlying9 (HR1.out.below HX7.out); have cv2 := string_of_reads (P := Try.prog) (A := A2) (c := c2) (n := xs.length) Try.underlying23 Try.underlying5 Try.underlying9 (HR2.out.below hB7); clear hB7)))
    go_ret
    exact ⟨rfl, HB7.out⟩
end Go.Proofs.Ytijccfblenmfcaa
