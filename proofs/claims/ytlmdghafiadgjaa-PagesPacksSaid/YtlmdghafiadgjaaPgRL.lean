/- The law PagesPacks, walked. -/
import Derived.Test.YtlmdghafiadgjaaPgR4
namespace Go.Proofs.Ytlmdghafiadgjaa
set_option maxRecDepth 100000
set_option linter.unusedVariables false
set_option linter.unusedSimpArgs false
open Go.RowKit Go.Proofs.YtlmdghafiadgjaaW.PrintWords Go.Proofs.YtlmdghafiadgjaaW.PrintLast

theorem pack_any2 (k n t : Int) (A : Option Addr) (c : Nat) (xs : List Int) (w : World) (hr : ReadsInt w .u8 A xs.length xs) (hx : Bytes xs) (hk : 0 ≤ k ∧ k ≤ 255) (ht : 0 ≤ t ∧ t < 18446744073709551616) :
    Calls Try.prog 10 #[.int .u8 k, .int .i64 n, .int .u64 t, .slice A xs.length c] w fun e w' => ∃ A' c', e = .returned (.tuple #[.slice A' (packV k n t xs).1.length c', .int .i64 (packV k n t xs).2]) ∧ ReadsInt w' .u8 A' (packV k n t xs).1.length (packV k n t xs).1 ∧ Below w.heap.size w w' := by
  refine (pack_any k n t A c xs w hr hx hk.1 hk.2 ht.1 ht.2).mono ?_
  rintro e w1 ⟨v, rfl, hB, h1, h2⟩
  by_cases hz : (packV k n t xs).2 = 0
  · obtain ⟨g, rfl, hR, hg, hl, hb, _, _⟩ := h1 hz
    refine ⟨_, 1024, by rw [hl], ?_, hB⟩
    have := hR.reads (a := 0) (b := 1024) (by omega) (by omega) (by omega)
    rw [seg_all hl] at this
    rw [hl]
    exact this
  · obtain ⟨rfl, h4, _⟩ := h2 hz
    rw [h4]
    exact ⟨none, 0, rfl, ⟨rfl, by simp, fun h => absurd h (Nat.lt_irrefl 0)⟩, hB⟩
set_option maxHeartbeats 4000000 in
theorem packs_great (k n t : Int) (A : Option Addr) (m c : Nat) (Z : Option Addr) (z d : Nat) (w : World) (hm : m ≤ 9223372036854775807) (hz : z ≤ 9223372036854775807) (h : 1200 < m ∨ (m ≤ 1200 ∧ 1200 < z)) :
    Calls Try.prog 3 #[.int .u8 k, .int .i64 n, .int .u64 t, .slice A m c, .slice Z z d] w fun e w' => e = .returned (.bool true) ∧ Below w.heap.size w w' := by
  rcases h with h | ⟨h, h2⟩
  all_goals
    go_enter Try.func3, Try.ntmps3
    go_wp2_with (first
      | (go_at_call 9; ((with_reducible refine (alive_any _).mono ?_); rintro e3 w3 ⟨rfl, hB⟩; have HB4 := Lib.hid hB; clear hB)))
    go_ret
    exact ⟨rfl, HB4.out⟩
set_option maxHeartbeats 4000000 in
theorem packs_some (k n t : Int) (A : Option Addr) (l : List Int) (c : Nat) (Z : Option Addr) (z : List Int) (d : Nat) (w : World) (hr : ReadsInt w .u8 A l.length l) (hx : Bytes l) (hz : ReadsInt w .u8 Z z.length z) (hzx : Bytes z) (hzd : z.length ≤ d) (hk : 0 ≤ k ∧ k ≤ 255) (ht : 0 ≤ t ∧ t < 18446744073709551616) (hl : l.length ≤ 1200) (hzl : z.length ≤ 1200) :
    Calls Try.prog 3 #[.int .u8 k, .int .i64 n, .int .u64 t, .slice A l.length c, .slice Z z.length d] w fun e w' => e = .returned (.bool true) ∧ Below w.heap.size w w' := by
  have HP := Lib.hid (pack_any2 k n t A c l w hr hx hk ht)
  have HQ := Lib.hid (fun W (hB : Below w.heap.size w W) => rpack_any k n t A c l W (reads_below8 hr hB) hx hk ht)
  have HU := Lib.hid (fun W (hB : Below w.heap.size w W) => unpack_any Z z.length d z n W (reads_below8 hz hB) hzx)
  have HV := Lib.hid (fun W (hB : Below w.heap.size w W) => runpack_any Z z.length d z n W (reads_below8 hz hB) hzx hzd)
  generalize packV k n t l = pk at *
  generalize unpackV z n = uz at *
  obtain ⟨px, pe⟩ := pk
  obtain ⟨u1, u2, u3, u4⟩ := uz
  unfold RPackEnds at HQ
  unfold UnpEnds at HU HV
  simp only at HP HQ HU HV
  have hs1 : ((strOfNums px).toList == (strOfNums px).toList) = true := by simp
  have hs2 : ((strOfNums u3).toList == (strOfNums u3).toList) = true := by simp
  clear hr hx hz hzx ht
  go_enter Try.func3, Try.ntmps3
  go_wp2_with (first
    | (go_at_call 10; ((with_reducible refine HP.out.mono ?_); rintro e w1 ⟨A1, c1, rfl, hr1, hB1⟩; have HR1 := Lib.hid hr1; have HB1 := Lib.hid hB1; clear hr1 hB1))
    | (go_at_call 11; ((with_reducible refine (HQ.out _ HB1.out).mono ?_); rintro e w2 ⟨v2, rfl, hO2, hB2⟩; obtain ⟨A2, c2, rfl, _, hr2⟩ := hO2.reads; have HR2 := Lib.hid hr2; have HS2 := Lib.hid (reads_below8 HR1.out hB2); have HB2 := Lib.hid (below_then HB1.out HB1.out.size hB2); clear hO2 hB2 hr2))
    | (go_at_call 12; ((with_reducible refine (HU.out _ HB2.out).mono ?_); rintro e w3 ⟨v3, rfl, hO3, hB3⟩; obtain ⟨A3, c3, rfl, _, hr3⟩ := hO3.reads; have HR3 := Lib.hid hr3; have HS3 := Lib.hid (reads_below8 HS2.out hB3); have HT3 := Lib.hid (reads_below8 HR2.out hB3); have HB3 := Lib.hid (below_then HB2.out HB2.out.size hB3); clear hO3 hB3 hr3))
    | (go_at_call 13; ((with_reducible refine (HV.out _ HB3.out).mono ?_); rintro e w4 ⟨v4, rfl, hO4, hB4⟩; obtain ⟨A4, c4, rfl, _, hr4⟩ := hO4.reads; have HR4 := Lib.hid hr4; have HS4 := Lib.hid (reads_below8 HS3.out hB4); have HT4 := Lib.hid (reads_below8 HT3.out hB4); have HU4 := Lib.hid (reads_below8 HR3.out hB4); have HB4 := Lib.hid (below_then HB3.out HB3.out.size hB4); clear hO4 hB4 hr4))
    | (go_at_call 9; ((with_reducible refine (alive_any _).mono ?_); rintro e3 w5 ⟨rfl, hB⟩; have HB5 := Lib.hid (below_then HB4.out HB4.out.size hB); have kc1 := string_of_reads (P := Try.prog) (c := c1) Try.underlying23 Try.underlying5 Try.underlying9 (reads_below8 HS4.out hB); have kc2 := string_of_reads (P := Try.prog) (c := c2) Try.underlying23 Try.underlying5 Try.underlying9 (reads_below8 HT4.out hB); have kc3 := string_of_reads (P := Try.prog) (c := c3) Try.underlying23 Try.underlying5 Try.underlying9 (reads_below8 HU4.out hB); have kc4 := string_of_reads (P := Try.prog) (c := c4) Try.underlying23 Try.underlying5 Try.underlying9 (reads_below8 HR4.out hB); clear hB)))
  go_ret
  exact ⟨rfl, HB5.out⟩
theorem packs_law (k n t : Int) (A : Option Addr) (l : List Int) (c : Nat) (Z : Option Addr) (z : List Int) (d : Nat) (w : World) (hk : (Lit.int .u8 k).wf = true) (_ : (Lit.int .i64 n).wf = true) (ht : (Lit.int .u64 t).wf = true) (hr : ReadsInt w .u8 A l.length l) (wl : ∀ n ∈ l, (Lit.int .u8 n).wf = true) (hc : l.length ≤ c) (_ : l.length * 1 ≤ 140737488351232) (hz : ReadsInt w .u8 Z z.length z) (wz : ∀ n ∈ z, (Lit.int .u8 n).wf = true) (hd : z.length ≤ d) (_ : z.length * 1 ≤ 140737488351232) :
    Calls Try.prog 3 #[.int .u8 k, .int .i64 n, .int .u64 t, .slice A l.length c, .slice Z z.length d] w fun e w' => e = .returned (.bool true) ∧ Below w.heap.size w w' := by
  by_cases h1 : 1200 < l.length
  · exact packs_great k n t A _ c Z _ d w hr.2.1 hz.2.1 (.inl h1)
  by_cases h2 : 1200 < z.length
  · exact packs_great k n t A _ c Z _ d w hr.2.1 hz.2.1 (.inr ⟨by omega, h2⟩)
  exact packs_some k n t A l c Z z d w hr (wf_u8 wl) hz (wf_u8 wz) hd (wf_b8 hk) (wf_u64 ht) (by omega) (by omega)
end Go.Proofs.Ytlmdghafiadgjaa
