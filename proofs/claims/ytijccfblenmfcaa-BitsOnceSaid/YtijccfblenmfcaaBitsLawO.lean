/- The law BitsOnce. -/
import Derived.Test.YtijccfblenmfcaaBitsAlive
import Derived.Test.YtijccfblenmfcaaBitsPure2
namespace Go.Proofs.Ytijccfblenmfcaa
open Go.RowKit Go.Shelf Go.Proofs.YtijccfblenmfcaaW.PrintWords

theorem ref_bare (s : ByteArray) (w : World) (hs : s.size ≤ 2097152) : Calls Try.prog 13 #[.string s] w fun e w' => ∃ v u, e = .returned (.tuple #[v, u]) ∧ ORow .u8 5 w' w.heap.size v ((toks (bytesOf s) 0).map Prod.fst) ∧ Below w.heap.size w w' := by
  obtain ⟨k, hk⟩ := (bare_ev s hs).get
  refine (PBitsDecodes.posthornref01_Bare.calls k s _ _ w hk).mono ?_
  rintro e w1 h
  obtain ⟨v, u, rfl, hR, _, hB⟩ := h
  exact ⟨v, u, rfl, Kd.own_of_R hR, hB⟩
set_option maxRecDepth 100000 in
set_option maxHeartbeats 1000000 in
theorem once_walk (s : ByteArray) (w : World) (hs0 : s.size ≤ 140737488351232) :
    Calls Try.prog 5 #[.string s] w fun e w' => e = .returned (.bool true) ∧ Below w.heap.size w w' := by
  by_cases hs : 3000 < s.size
  · go_enter Try.func5, Try.ntmps5
    go_wp2_with (first | (go_at_call 9; ((with_reducible refine (alive_any _).mono ?_); rintro e w1 ⟨rfl, hB1⟩; have HB1 := Lib.hid hB1; clear hB1)))
    go_ret
    exact ⟨rfl, HB1.out⟩
  · have hs3 : s.size ≤ 3000 := by omega
    have hbl : (bytesOf s).length = s.size := bytesOf_length s
    have HD1 := Lib.hid (fun W => decode_at s _ W (by omega) rfl)
    by_cases hcode : (decV (bytesOf s)).2.2 = 0
    · obtain ⟨h0, hbx, hlx, henc⟩ := once_law (bytesOf s) (bytesOf_bytes s) (by omega) hcode
      have HBR := Lib.hid (fun W => ref_bare s W (by omega))
      rw [← henc] at HBR
      generalize decV (bytesOf s) = dv at *
      obtain ⟨xs, at_, code⟩ := dv
      simp only at hcode h0 hbx hlx henc
      subst hcode; subst h0
      have hx3 : xs.length ≤ 3000 := by omega
      have HBX := Lib.hid hbx
      have HFT : Hid (fitsV (xs.length : Int) 0 = 0) := Lib.hid (by unfold fitsV; rw [if_neg (by omega), if_neg (by omega)])
      have HEN := Lib.hid (fun (A1 : Option Addr) (c1 : Nat) (W : World) (h1 : ReadsInt W .u8 A1 xs.length xs) (h2 : xs.length ≤ c1) => encode_ok A1 xs c1 0 W h1 HBX.out h2 HFT.out ⟨by decide, by decide⟩ (by omega))
      clear hs hbl hlx henc hbx
      generalize encL 0 xs.length xs 0 = ys at *
      go_enter Try.func5, Try.ntmps5
      go_wp2_with (first
        | (go_at_call 10; ((with_reducible refine (HD1.out _).mono ?_); rintro e w1 ⟨v1, rfl, hO1, hB1⟩; obtain ⟨A1, c1, rfl, hc1, hr1⟩ := hO1.reads; have HB1 := Lib.hid (below_alloc hB1 (.cells #[.int .i64 0, .int .i64 0] 26)); have HR1 := Lib.hid (hr1.below (below_first (.cells #[.int .i64 0, .int .i64 0] 26))); have HC1 := Lib.hid hc1; clear hO1 hB1 hr1 hc1))
        | (go_at_call 13; ((with_reducible refine (HBR.out _).mono ?_); rintro e w2 ⟨v2, u2, rfl, hO2, hB2⟩; obtain ⟨A2, c2, rfl, hc2, hr2⟩ := hO2.reads; have HX2 := Lib.hid hB2; have HB2 := Lib.hid (below_then HB1.out HB1.out.size hB2); have HR2 := Lib.hid hr2; have HE2 := Lib.hid (HEN.out A1 c1 w2 (HR1.out.below hB2) HC1.out); clear hO2 hB2 hr2 hc2))
        | (go_at_call 12; ((with_reducible refine HE2.out.mono ?_); rintro e w3 ⟨rfl, hB3⟩; have HB3 := Lib.hid (below_then HB2.out HB2.out.size hB3); have HR3 := Lib.hid (HR2.out.below hB3); clear hB3))
        | (go_at_call 9; ((with_reducible refine (alive_any _).mono ?_); rintro e w7 ⟨rfl, hB7⟩; have HB7 := Lib.hid (below_then HB3.out HB3.out.size hB7); have cv2 := string_of_reads (P := Try.prog) (A := A2) (c := c2) (n := ys.length) Try.underlying23 Try.underlying5 Try.underlying9 (HR3.out.below hB7); clear hB7)))
      go_ret
      exact ⟨rfl, HB7.out⟩
    · have hp := fun (p : Int × Int) (h : p ∈ toks (bytesOf s) 0) => toks_pos (bytesOf s) 0 p h
      have hv : decV (bytesOf s) = decT (bytesOf s).length (toks (bytesOf s) 0) 0 0 0 0 [] := by rw [decV, if_neg (by omega)]
      have hbad := once_bad (bytesOf s).length (by omega) (toks (bytesOf s) 0) 0 0 0 0 [] (fun p h => by have := hp p h; omega) (by omega) (by omega) (by rw [← hv]; exact hcode)
      rw [← hv, hbl] at hbad
      clear hv hp
      generalize decV (bytesOf s) = dv at *
      obtain ⟨xs, at_, code⟩ := dv
      simp only at hcode hbad
      obtain ⟨rfl, hat0, hat1⟩ := hbad
      have b1 : (code != 0) = true := bne_iff_ne.mpr hcode
      clear hcode hs hbl
      go_enter Try.func5, Try.ntmps5
      go_wp2_with (first
        | (go_at_call 10; ((with_reducible refine (HD1.out _).mono ?_); rintro e w1 ⟨v1, rfl, hO1, hB1⟩; obtain ⟨A1, c1, rfl, hc1, hr1⟩ := hO1.reads; have HB1 := Lib.hid (below_alloc hB1 (.cells #[.int .i64 at_, .int .i64 code] 26)); clear hO1 hB1 hr1 hc1))
        | (go_at_call 9; ((with_reducible refine (alive_any _).mono ?_); rintro e w7 ⟨rfl, hB7⟩; have HB7 := Lib.hid (below_then HB1.out HB1.out.size hB7); have d1 : w7.cell? ⟨w1.heap.size, 0, none⟩ = some (.int .i64 at_) := pw_cell_below hB7 (by go_simp); have d2 : w7.cell? ⟨w1.heap.size, 1, none⟩ = some (.int .i64 code) := pw_cell_below hB7 (by go_simp); clear hB7)))
      go_ret
      exact ⟨rfl, HB7.out⟩
end Go.Proofs.Ytijccfblenmfcaa
