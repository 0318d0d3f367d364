/- The law CharsetBack. -/
import Derived.Test.YtpbgpbblbohmgaaChA
import Derived.Test.YtpbgpbblbohmgaaChP1
namespace Go.Proofs.Ytpbgpbblbohmgaa
open Go.RowKit Go.Proofs.YtpbgpbblbohmgaaW.PrintWords

theorem wf_u8 {l : List Int} (h : ∀ n ∈ l, (Lit.int .u8 n).wf = true) : Bytes l := by
  intro x hx
  have h2 := h x hx
  simp only [Lit.wf, Bool.and_eq_true, decide_eq_true_eq] at h2
  exact ⟨h2.1, h2.2⟩
theorem alive_keep (w : World) (g : Nat) (cs : Array Value) (t : TypeId) (hb : w.heap[g]? = some (.cells cs t (0, 0))) :
    Calls Try.prog 9 #[] w fun e w' => e = .returned (.bool true) ∧ Below w.heap.size w w' ∧ w'.heap[g]? = some (.cells cs t (0, 0)) :=
  (alive_any w).mono fun _ _ ⟨h, hB⟩ => ⟨h, hB, blk_below hb hB⟩
set_option maxRecDepth 100000 in
set_option maxHeartbeats 1000000 in
theorem back_early (s : ByteArray) (A : Option Addr) (n c : Nat) (w : World) (hs : s.size ≤ 140737488351232) (hn : n ≤ 9223372036854775807) (h : 100 < s.size ∨ (s.size ≤ 100 ∧ 1000 < n)) :
    Calls Try.prog 4 #[.string s, .slice A n c] w fun e w' => e = .returned (.bool true) ∧ Below w.heap.size w w' := by
  rcases h with h | ⟨h, h2⟩
  all_goals
    go_enter Try.func4, Try.ntmps4
    go_wp2_with (first | (go_at_call 9; ((with_reducible refine (alive_any _).mono ?_); rintro e w1 ⟨rfl, hB1⟩; have HB1 := Lib.hid hB1; clear hB1)))
    go_ret
    exact ⟨rfl, HB1.out⟩
set_option maxRecDepth 100000 in
set_option maxHeartbeats 4000000 in
theorem back_law (s : ByteArray) (A : Option Addr) (l : List Int) (c : Nat) (w : World) (hs : s.size ≤ 140737488351232) (hr : ReadsInt w .u8 A l.length l) (wl : ∀ n ∈ l, (Lit.int .u8 n).wf = true) (hc : l.length ≤ c) (_ : l.length * 1 ≤ 140737488351232) :
    Calls Try.prog 4 #[.string s, .slice A l.length c] w fun e w' => e = .returned (.bool true) ∧ Below w.heap.size w w' := by
  by_cases h1 : 100 < s.size
  · exact back_early s A l.length c w hs hr.2.1 (.inl h1)
  by_cases h2 : 1000 < l.length
  · exact back_early s A l.length c w hs hr.2.1 (.inr ⟨by omega, h2⟩)
  have hby := wf_u8 wl
  have h1' : s.size ≤ 100 := by omega
  have h2' : l.length ≤ 1000 := by omega
  have HE := Lib.hid (encode_any s A l c w hr hby hc (by omega) (by omega))
  have HR := Lib.hid hr
  have hl1 : (encodeV s l).1.length ≤ 1048576 := by have := encodeV_len s l hby; omega
  have hbb := encodeV_bytes s l hby
  clear h1 h2 wl hr
  by_cases hcd : (encodeV s l).2.2 = 0
  · have hD := back_plain s l hby hcd
    have HBY := Lib.hid hby
    rcases hv : encodeV s l with ⟨b, at_, cd⟩
    rw [hv] at hD HE hcd hl1 hbb
    simp only at hcd hD hl1 hbb
    subst hcd
    have HD := Lib.hid (fun W A1 c1 h hc => decode_at s A1 b b.length c1 _ W h hbb hc (by omega) hl1 hD)
    clear hv hD hbb hl1 hby
    go_enter Try.func4, Try.ntmps4
    go_wp2_with (first
      | (go_at_call 14; ((with_reducible refine HE.out.mono ?_); rintro e w1 ⟨v, rfl, hO, hB⟩; obtain ⟨A1, c1, rfl, hc1, hR1⟩ := (hO.alloc (.cells #[.int .i64 at_, .int .i64 0] 26)).reads; have HR1 : Hid (ReadsInt (w1.alloc (.cells #[.int .i64 at_, .int .i64 0] 26)) .u8 A1 b.length b) := Lib.hid hR1; have HC1 : Hid (b.length ≤ c1) := Lib.hid hc1; have HB1 := Lib.hid (below_alloc hB (.cells #[.int .i64 at_, .int .i64 0] 26)); clear hO hB hR1 hc1))
      | (go_at_call 10; ((with_reducible refine (HD.out _ _ _ HR1.out HC1.out).mono ?_); rintro e w2 ⟨v2, rfl, hO2, hB2⟩; obtain ⟨A2, c2, rfl, hc2, hR2⟩ := (hO2.alloc (.cells #[.int .i64 0, .int .i64 0] 26)).reads; have HR2 : Hid (ReadsInt (w2.alloc (.cells #[.int .i64 0, .int .i64 0] 26)) .u8 A2 l.length l) := Lib.hid hR2; have HB2 := Lib.hid (below_alloc (below_then HB1.out HB1.out.size hB2) (.cells #[.int .i64 0, .int .i64 0] 26)); clear hO2 hB2 hR2 hc2))
      | (go_at_call 9; ((with_reducible refine (alive_keep _ _ _ _ (heap_alloc_new w2 (.cells #[.int .i64 0, .int .i64 0] 26))).mono ?_); rintro e w3 ⟨rfl, hB3, hb3⟩; have kc1 := string_of_reads (P := Try.prog) (c := c2) Try.underlying22 Try.underlying5 Try.underlying9 (HR2.out.below hB3); have kc2 := string_of_reads (P := Try.prog) (c := c) Try.underlying22 Try.underlying5 Try.underlying9 ((HR.out.below HB2.out).below hB3); have c0 : w3.cell? ⟨w2.heap.size, 0, none⟩ = some (.int .i64 0) := (blk_cell hb3 0).trans rfl; have c1 : w3.cell? ⟨w2.heap.size, 1, none⟩ = some (.int .i64 0) := (blk_cell hb3 1).trans rfl; have HB3 := Lib.hid (below_then HB2.out HB2.out.size hB3); clear hB3 hb3)))
    go_ret
    exact ⟨rfl, HB3.out⟩
  · obtain ⟨hb0, hkn⟩ := back_bad s l hby hcd
    rcases hv : encodeV s l with ⟨b, at_, cd⟩
    rw [hv] at hb0 hkn hcd HE
    simp only at hb0 hkn hcd
    subst hb0
    have b0 : (cd != 0) = true := bne_iff_ne.mpr hcd
    have hkk : (knownV s = true) ∨ (knownV s = false ∧ cd = 143) := by
      cases h : knownV s with
      | true => exact .inl rfl
      | false => rcases hkn with h2 | h2
                 · rw [h] at h2; cases h2
                 · exact .inr ⟨rfl, h2⟩
    have HK := Lib.hid (fun W => known_any s W (by omega))
    clear hv hbb hl1 hby hcd hkn
    rcases hkk with hk | ⟨hk, h143⟩
    · rw [hk] at HK
      clear hk
      go_enter Try.func4, Try.ntmps4
      go_wp2_with (first
        | (go_at_call 14; ((with_reducible refine HE.out.mono ?_); rintro e w1 ⟨v, rfl, hO, hB⟩; obtain ⟨A1, c1, rfl, hc1, hR1⟩ := hO.reads; have HB1 := Lib.hid (below_alloc hB (.cells #[.int .i64 at_, .int .i64 cd] 26)); clear hO hB hR1 hc1))
        | (go_at_call 9; ((with_reducible refine (alive_any _).mono ?_); rintro e w3 ⟨rfl, hB3⟩; have HB3 := Lib.hid (below_then HB1.out HB1.out.size hB3); clear hB3))
        | (go_at_call 12; ((with_reducible refine (HK.out _).mono ?_); rintro e w4 ⟨rfl, hB4⟩; have HB4 := Lib.hid (below_then HB3.out HB3.out.size hB4); clear hB4)))
      go_ret
      exact ⟨rfl, HB4.out⟩
    · subst h143
      rw [hk] at HK
      clear hk
      go_enter Try.func4, Try.ntmps4
      go_wp2_with (first
        | (go_at_call 14; ((with_reducible refine HE.out.mono ?_); rintro e w1 ⟨v, rfl, hO, hB⟩; obtain ⟨A1, c1, rfl, hc1, hR1⟩ := hO.reads; have HG1 := Lib.hid (heap_alloc_new w1 (.cells #[.int .i64 at_, .int .i64 143] 26)); have HB1 := Lib.hid (below_alloc hB (.cells #[.int .i64 at_, .int .i64 143] 26)); clear hO hB hR1 hc1))
        | (go_at_call 9; ((with_reducible refine (alive_any _).mono ?_); rintro e w3 ⟨rfl, hB3⟩; have HG3 := Lib.hid (blk_below HG1.out hB3); have HB3 := Lib.hid (below_then HB1.out HB1.out.size hB3); clear hB3))
        | (go_at_call 12; ((with_reducible refine (HK.out _).mono ?_); rintro e w4 ⟨rfl, hB4⟩; have hg4 := blk_below HG3.out hB4; have c1 : w4.cell? ⟨w1.heap.size, 1, none⟩ = some (.int .i64 143) := (blk_cell hg4 1).trans rfl; have HB4 := Lib.hid (below_then HB3.out HB3.out.size hB4); clear hB4 hg4)))
      go_ret
      exact ⟨rfl, HB4.out⟩
end Go.Proofs.Ytpbgpbblbohmgaa
