/- The law PagesBack. -/
import Derived.Test.YtlmdghafiadgjaaPgT
namespace Go.Proofs.Ytlmdghafiadgjaa
set_option linter.unusedVariables false
set_option linter.unusedSimpArgs false
open Go.RowKit Go.Proofs.YtlmdghafiadgjaaW.PrintWords Go.Proofs.YtlmdghafiadgjaaW.PrintLast

set_option maxRecDepth 100000 in
set_option maxHeartbeats 4000000 in
theorem pback_great (k n t : Int) (A : Option Addr) (m c : Nat) (Z : Option Addr) (z d : Nat) (w : World) (hm : m ≤ 9223372036854775807) (hz : z ≤ 9223372036854775807) (h : 1200 < m ∨ (m ≤ 1200 ∧ 1200 < z)) :
    Calls Try.prog 6 #[.int .u8 k, .int .i64 n, .int .u64 t, .slice A m c, .slice Z z d] w fun e w' => e = .returned (.bool true) ∧ Below w.heap.size w w' := by
  rcases h with h | ⟨h, h2⟩
  all_goals
    go_enter Try.func6, Try.ntmps6
    go_wp2_with (first
      | (go_at_call 9; ((with_reducible refine (alive_any _).mono ?_); rintro e3 w3 ⟨rfl, hB⟩; have HB4 := Lib.hid hB; clear hB)))
    go_ret
    exact ⟨rfl, HB4.out⟩
set_option maxRecDepth 100000 in
set_option maxHeartbeats 4000000 in
theorem pback_bad (k n t : Int) (A : Option Addr) (l : List Int) (c : Nat) (Z : Option Addr) (z : List Int) (d : Nat) (w : World) (hr : ReadsInt w .u8 A l.length l) (hx : Bytes l) (hz : ReadsInt w .u8 Z z.length z) (hzx : Bytes z) (hk : 0 ≤ k ∧ k ≤ 255) (ht : 0 ≤ t ∧ t < 18446744073709551616) (hl : l.length ≤ 1200) (hzl : z.length ≤ 1200) (h : (packV k n t l).2 ≠ 0) :
    Calls Try.prog 6 #[.int .u8 k, .int .i64 n, .int .u64 t, .slice A l.length c, .slice Z z.length d] w fun e w' => e = .returned (.bool true) ∧ Below w.heap.size w w' := by
  have HZ := Lib.hid hz
  have HV := Lib.hid (fun W (hB : Below w.heap.size w W) => unpack_any Z z.length d z n W (reads_below8 hz hB) hzx)
  have HPU := Lib.hid (@pack_unpack z n hzx)
  have hur := unpackV_range hzx n
  have HWR := Lib.hid hur.2.2.2.2.2
  have HQ2 := Lib.hid (fun A' c' W (hr' : ReadsInt W .u8 A' (unpackV z n).2.2.1.length (unpackV z n).2.2.1) => pack_any (unpackV z n).1 n (unpackV z n).2.1 A' c' (unpackV z n).2.2.1 W hr' hur.2.2.2.2.2 hur.1 hur.2.1 hur.2.2.1 hur.2.2.2.1)
  have hlu := hur.2.2.2.2.1
  have HSC := Lib.hid (fun W (hr' : ReadsInt W .u8 A l.length l) => string_of_reads (P := Try.prog) (c := c) Try.underlying23 Try.underlying5 Try.underlying9 hr')
  have HSZ := Lib.hid (fun W (hB : Below w.heap.size w W) => string_of_reads (P := Try.prog) (c := d) Try.underlying23 Try.underlying5 Try.underlying9 (reads_below8 hz hB))
  have HSA := Lib.hid (fun W (hB : Below w.heap.size w W) => string_of_reads (P := Try.prog) (c := c) Try.underlying23 Try.underlying5 Try.underlying9 (reads_below8 hr hB))
  have HP := Lib.hid (pack_any k n t A c l w hr hx hk.1 hk.2 ht.1 ht.2)
  have hb : ((packV k n t l).2 == 0) = false := by simpa using h
  generalize packV k n t l = pk at *
  by_cases hzz : (unpackV z n).2.2.2 = 0
  · have hpz := HPU.out hzz
    have hzb : ((unpackV z n).2.2.2 != 0) = false := by rw [hzz]; rfl
    rw [hpz] at HQ2
    have hpz2 : (0 : Int) = 0 := rfl
    have HRS := Lib.hid (fun g W (hR : RowP W g z) (hl : z.length = 1024) => (show ReadsInt W .u8 (some ⟨g, 0, none⟩) 1024 z by have := hR.reads (a := 0) (b := 1024) (by omega) (by omega) (by omega); rw [seg_all hl] at this; exact this))
    have HSR := Lib.hid (fun g W (hR : ReadsInt W .u8 (some ⟨g, 0, none⟩) 1024 z) => string_of_reads (P := Try.prog) (c := 1024) Try.underlying23 Try.underlying5 Try.underlying9 hR)
    have hss : ((strOfNums z).toList == (strOfNums z).toList) = true := by simp
    clear hpz HPU hur hr hx hz hzx HWR
    generalize unpackV z n = uz at *
    go_enter Try.func6, Try.ntmps6
    go_wp2_with (first
      | (go_at_call 10; ((with_reducible refine HP.out.mono ?_); rintro e w1 ⟨v, rfl, hB, _, hn⟩; obtain ⟨rfl, _⟩ := hn h; have HB3 := Lib.hid hB; have HV3 := Lib.hid (HV.out w1 hB); clear hB hn))
      | (go_at_call 12; ((with_reducible refine HV3.out.mono ?_); rintro e w4 ⟨v4, rfl, hO4, hB4⟩; obtain ⟨A4, c4, rfl, _, hr4⟩ := hO4.reads; have HB5 := Lib.hid (below_then HB3.out HB3.out.size hB4); have HQ5 := Lib.hid (HQ2.out A4 c4 w4 hr4); clear hO4 hB4 hr4))
      | (go_at_call 10; ((with_reducible refine HQ5.out.mono ?_); rintro e w6 ⟨v6, rfl, hB, hy, _⟩; obtain ⟨g6, rfl, hR6, hg6, hl6, hby6, hq1, hq2⟩ := hy (by first | trivial | exact hpz2); clear hq1 hq2; have HB6 := Lib.hid (below_then HB5.out HB5.out.size hB); have HR6 := Lib.hid (HRS.out g6 w6 hR6 hl6); clear hB hy hR6 hl6))
      | (go_at_call 9; ((with_reducible refine (alive_any _).mono ?_); rintro e3 w7 ⟨rfl, hB⟩; have HB7 := Lib.hid (below_then HB6.out HB6.out.size hB); have kc3 := HSR.out g6 w7 (reads_below8 HR6.out hB); have kc4 := HSZ.out w7 HB7.out; clear hB)))
    go_ret
    exact ⟨rfl, HB7.out⟩
  · have hzb : ((unpackV z n).2.2.2 != 0) = true := bne_iff_ne.mpr hzz
    clear HPU hur hr hx hz hzx HWR
    generalize unpackV z n = uz at *
    generalize packV uz.1 n uz.2.1 uz.2.2.1 = pz at *
    go_enter Try.func6, Try.ntmps6
    go_wp2_with (first
      | (go_at_call 10; ((with_reducible refine HP.out.mono ?_); rintro e w1 ⟨v, rfl, hB, _, hn⟩; obtain ⟨rfl, _⟩ := hn h; have HB3 := Lib.hid hB; have HV3 := Lib.hid (HV.out w1 hB); clear hB hn))
      | (go_at_call 12; ((with_reducible refine HV3.out.mono ?_); rintro e w4 ⟨v4, rfl, hO4, hB4⟩; obtain ⟨A4, c4, rfl, _, hr4⟩ := hO4.reads; have HB5 := Lib.hid (below_then HB3.out HB3.out.size hB4); have HQ5 := Lib.hid (HQ2.out A4 c4 w4 hr4); clear hO4 hB4 hr4))
      | (go_at_call 10; ((with_reducible refine HQ5.out.mono ?_); rintro e w6 ⟨v6, rfl, hB, _, _⟩; have HB6 := Lib.hid (below_then HB5.out HB5.out.size hB); clear hB))
      | (go_at_call 9; ((with_reducible refine (alive_any _).mono ?_); rintro e3 w7 ⟨rfl, hB⟩; have HB7 := Lib.hid (below_then HB6.out HB6.out.size hB); clear hB)))
    go_ret
    exact ⟨rfl, HB7.out⟩
set_option maxRecDepth 100000 in
set_option maxHeartbeats 4000000 in
theorem pback_ok (k n t : Int) (A : Option Addr) (l : List Int) (c : Nat) (Z : Option Addr) (z : List Int) (d : Nat) (w : World) (hr : ReadsInt w .u8 A l.length l) (hx : Bytes l) (hz : ReadsInt w .u8 Z z.length z) (hzx : Bytes z) (hk : 0 ≤ k ∧ k ≤ 255) (ht : 0 ≤ t ∧ t < 18446744073709551616) (hl : l.length ≤ 1200) (hzl : z.length ≤ 1200) (h : (packV k n t l).2 = 0) :
    Calls Try.prog 6 #[.int .u8 k, .int .i64 n, .int .u64 t, .slice A l.length c, .slice Z z.length d] w fun e w' => e = .returned (.bool true) ∧ Below w.heap.size w w' := by
  have HZ := Lib.hid hz
  have HV := Lib.hid (fun W (hB : Below w.heap.size w W) => unpack_any Z z.length d z n W (reads_below8 hz hB) hzx)
  have HPU := Lib.hid (@pack_unpack z n hzx)
  have hur := unpackV_range hzx n
  have HWR := Lib.hid hur.2.2.2.2.2
  have HQ2 := Lib.hid (fun A' c' W (hr' : ReadsInt W .u8 A' (unpackV z n).2.2.1.length (unpackV z n).2.2.1) => pack_any (unpackV z n).1 n (unpackV z n).2.1 A' c' (unpackV z n).2.2.1 W hr' hur.2.2.2.2.2 hur.1 hur.2.1 hur.2.2.1 hur.2.2.2.1)
  have hlu := hur.2.2.2.2.1
  have HSC := Lib.hid (fun W (hr' : ReadsInt W .u8 A l.length l) => string_of_reads (P := Try.prog) (c := c) Try.underlying23 Try.underlying5 Try.underlying9 hr')
  have HSZ := Lib.hid (fun W (hB : Below w.heap.size w W) => string_of_reads (P := Try.prog) (c := d) Try.underlying23 Try.underlying5 Try.underlying9 (reads_below8 hz hB))
  have HSA := Lib.hid (fun W (hB : Below w.heap.size w W) => string_of_reads (P := Try.prog) (c := c) Try.underlying23 Try.underlying5 Try.underlying9 (reads_below8 hr hB))
  have HP := Lib.hid (pack_any k n t A c l w hr hx hk.1 hk.2 ht.1 ht.2)
  have hb : ((packV k n t l).2 == 0) = true := by rw [h]; rfl
  have HU := Lib.hid (fun g W (hR : RowP W g (packV k n t l).1) (hl : (packV k n t l).1.length = 1024) (hy : Bytes (packV k n t l).1) (hok : PkOk k n t l) (hpe : (packV k n t l).1 = packL k n t l) => (show Calls Try.prog 12 #[.slice (some ⟨g, 0, none⟩) 1024 1024, .int .i64 n] W (UnpEnds W (k, t, l, 0)) by
    have h8 := unpack_any (some ⟨g, 0, none⟩) 1024 1024 _ n W (by have := hR.reads (a := 0) (b := 1024) (by omega) (by omega) (by omega); rw [seg_all hl] at this; exact this) hy
    rw [hpe, unpack_pack hok] at h8
    exact h8))
  have hsl : ((strOfNums l).toList == (strOfNums l).toList) = true := by simp
  generalize packV k n t l = pk at *
  by_cases hzz : (unpackV z n).2.2.2 = 0
  · have hpz := HPU.out hzz
    have hzb : ((unpackV z n).2.2.2 != 0) = false := by rw [hzz]; rfl
    rw [hpz] at HQ2
    have hpz2 : (0 : Int) = 0 := rfl
    have HRS := Lib.hid (fun g W (hR : RowP W g z) (hl : z.length = 1024) => (show ReadsInt W .u8 (some ⟨g, 0, none⟩) 1024 z by have := hR.reads (a := 0) (b := 1024) (by omega) (by omega) (by omega); rw [seg_all hl] at this; exact this))
    have HSR := Lib.hid (fun g W (hR : ReadsInt W .u8 (some ⟨g, 0, none⟩) 1024 z) => string_of_reads (P := Try.prog) (c := 1024) Try.underlying23 Try.underlying5 Try.underlying9 hR)
    have hss : ((strOfNums z).toList == (strOfNums z).toList) = true := by simp
    clear hpz HPU hur hr hx hz hzx HWR
    generalize unpackV z n = uz at *
    go_enter Try.func6, Try.ntmps6
    go_wp2_with (first
      | (go_at_call 10; ((with_reducible refine HP.out.mono ?_); rintro e w1 ⟨v, rfl, hB, hy, _⟩; obtain ⟨g, rfl, hR1, hg1, hl1, hby1, hok, hpe⟩ := hy h; have HB1 := Lib.hid hB; have HU1 := Lib.hid (HU.out g w1 hR1 hl1 hby1 hok hpe); clear hB hy hR1 hg1 hl1 hby1 hok hpe))
      | (go_at_call 12; ((with_reducible refine HU1.out.mono ?_); rintro e w2 ⟨v2, rfl, hO2, hB2⟩; obtain ⟨A2, c2, rfl, _, hr2⟩ := hO2.reads; have HB3 := Lib.hid (below_then HB1.out HB1.out.size hB2); have HV3 := Lib.hid (HV.out w2 HB3.out); have kc1 := string_of_reads (P := Try.prog) (c := c2) Try.underlying23 Try.underlying5 Try.underlying9 hr2; have kc2 := HSA.out w2 HB3.out; clear hO2 hB2 hr2))
      | (go_at_call 12; ((with_reducible refine HV3.out.mono ?_); rintro e w4 ⟨v4, rfl, hO4, hB4⟩; obtain ⟨A4, c4, rfl, _, hr4⟩ := hO4.reads; have HB5 := Lib.hid (below_then HB3.out HB3.out.size hB4); have HQ5 := Lib.hid (HQ2.out A4 c4 w4 hr4); clear hO4 hB4 hr4))
      | (go_at_call 10; ((with_reducible refine HQ5.out.mono ?_); rintro e w6 ⟨v6, rfl, hB, hy, _⟩; obtain ⟨g6, rfl, hR6, hg6, hl6, hby6, hq1, hq2⟩ := hy (by first | trivial | exact hpz2); clear hq1 hq2; have HB6 := Lib.hid (below_then HB5.out HB5.out.size hB); have HR6 := Lib.hid (HRS.out g6 w6 hR6 hl6); clear hB hy hR6 hl6))
      | (go_at_call 9; ((with_reducible refine (alive_any _).mono ?_); rintro e3 w7 ⟨rfl, hB⟩; have HB7 := Lib.hid (below_then HB6.out HB6.out.size hB); have kc3 := HSR.out g6 w7 (reads_below8 HR6.out hB); have kc4 := HSZ.out w7 HB7.out; clear hB)))
    go_ret
    exact ⟨rfl, HB7.out⟩
  · have hzb : ((unpackV z n).2.2.2 != 0) = true := bne_iff_ne.mpr hzz
    clear HPU hur hr hx hz hzx HWR
    generalize unpackV z n = uz at *
    generalize packV uz.1 n uz.2.1 uz.2.2.1 = pz at *
    go_enter Try.func6, Try.ntmps6
    go_wp2_with (first
      | (go_at_call 10; ((with_reducible refine HP.out.mono ?_); rintro e w1 ⟨v, rfl, hB, hy, _⟩; obtain ⟨g, rfl, hR1, hg1, hl1, hby1, hok, hpe⟩ := hy h; have HB1 := Lib.hid hB; have HU1 := Lib.hid (HU.out g w1 hR1 hl1 hby1 hok hpe); clear hB hy hR1 hg1 hl1 hby1 hok hpe))
      | (go_at_call 12; ((with_reducible refine HU1.out.mono ?_); rintro e w2 ⟨v2, rfl, hO2, hB2⟩; obtain ⟨A2, c2, rfl, _, hr2⟩ := hO2.reads; have HB3 := Lib.hid (below_then HB1.out HB1.out.size hB2); have HV3 := Lib.hid (HV.out w2 HB3.out); have kc1 := string_of_reads (P := Try.prog) (c := c2) Try.underlying23 Try.underlying5 Try.underlying9 hr2; have kc2 := HSA.out w2 HB3.out; clear hO2 hB2 hr2))
      | (go_at_call 12; ((with_reducible refine HV3.out.mono ?_); rintro e w4 ⟨v4, rfl, hO4, hB4⟩; obtain ⟨A4, c4, rfl, _, hr4⟩ := hO4.reads; have HB5 := Lib.hid (below_then HB3.out HB3.out.size hB4); have HQ5 := Lib.hid (HQ2.out A4 c4 w4 hr4); clear hO4 hB4 hr4))
      | (go_at_call 10; ((with_reducible refine HQ5.out.mono ?_); rintro e w6 ⟨v6, rfl, hB, _, _⟩; have HB6 := Lib.hid (below_then HB5.out HB5.out.size hB); clear hB))
      | (go_at_call 9; ((with_reducible refine (alive_any _).mono ?_); rintro e3 w7 ⟨rfl, hB⟩; have HB7 := Lib.hid (below_then HB6.out HB6.out.size hB); clear hB)))
    go_ret
    exact ⟨rfl, HB7.out⟩
theorem pback_law (k n t : Int) (A : Option Addr) (l : List Int) (c : Nat) (Z : Option Addr) (z : List Int) (d : Nat) (w : World) (hk : (Lit.int .u8 k).wf = true) (_ : (Lit.int .i64 n).wf = true) (ht : (Lit.int .u64 t).wf = true) (hr : ReadsInt w .u8 A l.length l) (wl : ∀ n ∈ l, (Lit.int .u8 n).wf = true) (hc : l.length ≤ c) (_ : l.length * 1 ≤ 140737488351232) (hz : ReadsInt w .u8 Z z.length z) (wz : ∀ n ∈ z, (Lit.int .u8 n).wf = true) (hd : z.length ≤ d) (_ : z.length * 1 ≤ 140737488351232) :
    Calls Try.prog 6 #[.int .u8 k, .int .i64 n, .int .u64 t, .slice A l.length c, .slice Z z.length d] w fun e w' => e = .returned (.bool true) ∧ Below w.heap.size w w' := by
  by_cases h1 : 1200 < l.length
  · exact pback_great k n t A _ c Z _ d w hr.2.1 hz.2.1 (.inl h1)
  by_cases h2 : 1200 < z.length
  · exact pback_great k n t A _ c Z _ d w hr.2.1 hz.2.1 (.inr ⟨by omega, h2⟩)
  by_cases h : (packV k n t l).2 = 0
  · exact pback_ok k n t A l c Z z d w hr (wf_u8 wl) hz (wf_u8 wz) (wf_b8 hk) (wf_u64 ht) (by omega) (by omega) h
  · exact pback_bad k n t A l c Z z d w hr (wf_u8 wl) hz (wf_u8 wz) (wf_b8 hk) (wf_u64 ht) (by omega) (by omega) h
end Go.Proofs.Ytlmdghafiadgjaa
