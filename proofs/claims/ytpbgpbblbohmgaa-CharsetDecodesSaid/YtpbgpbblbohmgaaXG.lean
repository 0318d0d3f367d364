/- The law CharsetDecodes. -/
import Derived.Test.YtpbgpbblbohmgaaXE
import Derived.Test.YtpbgpbblbohmgaaXD
namespace Go.Proofs.Ytpbgpbblbohmgaa
open Go.RowKit Go.Proofs.YtpbgpbblbohmgaaW.PrintWords
set_option maxRecDepth 100000 in
set_option maxHeartbeats 1000000 in
theorem decodes_early (s : ByteArray) (A : Option Addr) (n c : Nat) (w : World) (hs : s.size ≤ 140737488351232) (hn : n ≤ 9223372036854775807) (h : 100 < s.size ∨ (s.size ≤ 100 ∧ 2000 < n)) :
    Calls Try.prog 3 #[.string s, .slice A n c] w fun e w' => e = .returned (.bool true) ∧ Below w.heap.size w w' := by
  rcases h with h | ⟨h, h2⟩
  all_goals
    go_enter Try.func3, Try.ntmps3
    go_wp2_with (first | (go_at_call 9; ((with_reducible refine (alive_any _).mono ?_); rintro e w1 ⟨rfl, hB1⟩; have HB1 := Lib.hid hB1; clear hB1)))
    go_ret
    exact ⟨rfl, HB1.out⟩
theorem txt_bytes (s : ByteArray) (l : List Int) (hby : Bytes l) : Bytes (decodeV s l).1 := by
  rcases decode_cases s l hby with ⟨ps, _, _, _, _, hv, _⟩ | ⟨h, _, _⟩
  · rw [hv]; exact encB_bytes ps
  · rw [h]; exact fun x hx => by cases hx
set_option maxRecDepth 100000 in
set_option maxHeartbeats 4000000 in
theorem decodes_main (s : ByteArray) (A : Option Addr) (l : List Int) (c : Nat) (w : World) (kn : Bool) (nm : ByteArray) (r : List Int × Int × Int) (h1 : s.size ≤ 100) (h2 : l.length ≤ 2000)
    (hK : ∀ W, Calls Try.prog 12 #[.string s] W fun e w' => e = .returned (.bool kn) ∧ Below W.heap.size W w') (hS : ∀ W, Calls Try.prog 13 #[.string s] W fun e w' => e = .returned (.string nm) ∧ Below W.heap.size W w')
    (hD : Calls Try.prog 10 #[.string s, .slice A l.length c] w (TxtPost w r)) (hR : ∀ W, Below w.heap.size w W → Calls Try.prog 11 #[.string s, .slice A l.length c] W (TxtPost W r))
    (hkn : (kn = true ∧ (nm.toList == []) = false ∧ nm.toList.isEmpty = false) ∨ (kn = false ∧ nm = ⟨#[]⟩)) :
    Calls Try.prog 3 #[.string s, .slice A l.length c] w fun e w' => e = .returned (.bool true) ∧ Below w.heap.size w w' := by
  have HK := Lib.hid hK
  have HS := Lib.hid hS
  have HD := Lib.hid hD
  have HR := Lib.hid hR
  clear hK hS hD hR
  obtain ⟨x, at_, cd⟩ := r
  rcases hkn with ⟨rfl, n1, n2⟩ | ⟨rfl, rfl⟩
  all_goals
    go_enter Try.func3, Try.ntmps3
    go_wp2_with (first
      | (go_at_call 10; ((with_reducible refine HD.out.mono ?_); rintro e w1 ⟨v, rfl, hO, hB⟩; obtain ⟨A1, c1, rfl, hc1, hR1⟩ := (hO.alloc (.cells #[.int .i64 at_, .int .i64 cd] 26)).reads; have HR1 : Hid (ReadsInt (w1.alloc (.cells #[.int .i64 at_, .int .i64 cd] 26)) .u8 A1 x.length x) := Lib.hid hR1; have HB1 := Lib.hid (below_alloc hB (.cells #[.int .i64 at_, .int .i64 cd] 26)); have HG1 := Lib.hid (heap_alloc_new w1 (.cells #[.int .i64 at_, .int .i64 cd] 26)); clear hO hB hR1 hc1))
      | (go_at_call 11; ((with_reducible refine (HR.out _ HB1.out).mono ?_); rintro e w2 ⟨v2, rfl, hO2, hB2⟩; obtain ⟨A2, c2, rfl, hc2, hR2⟩ := (hO2.alloc (.cells #[.int .i64 at_, .int .i64 cd] 26)).reads; have HR2 : Hid (ReadsInt (w2.alloc (.cells #[.int .i64 at_, .int .i64 cd] 26)) .u8 A2 x.length x) := Lib.hid hR2; have HX2 := Lib.hid (below_alloc hB2 (.cells #[.int .i64 at_, .int .i64 cd] 26)); have HB2 := Lib.hid (below_then HB1.out HB1.out.size HX2.out); have HR1b := Lib.hid (HR1.out.below HX2.out); have HG1b := Lib.hid (blk_below HG1.out HX2.out); have HG2 := Lib.hid (heap_alloc_new w2 (.cells #[.int .i64 at_, .int .i64 cd] 26)); clear hO2 hB2 hR2 hc2))
      | (go_at_call 9; ((with_reducible refine (alive_any _).mono ?_); rintro e w3 ⟨rfl, hB3⟩; have HX3 := Lib.hid hB3; have HB3 := Lib.hid (below_then HB2.out HB2.out.size hB3); clear hB3))
      | (go_at_call 12; ((with_reducible refine (HK.out _).mono ?_); rintro e w4 ⟨rfl, hB4⟩; have HX4 := Lib.hid (below_step HX3.out hB4); have HB4 := Lib.hid (below_then HB3.out HB3.out.size hB4); clear hB4))
      | (go_at_call 13; ((with_reducible refine (HS.out _).mono ?_); rintro e w5 ⟨rfl, hB5⟩; have hX5 := below_step HX4.out hB5; have kc1 := string_of_reads (P := Try.prog) (c := c1) Try.underlying22 Try.underlying5 Try.underlying9 (HR1b.out.below hX5); have kc2 := string_of_reads (P := Try.prog) (c := c2) Try.underlying22 Try.underlying5 Try.underlying9 (HR2.out.below hX5); have g1 := blk_below HG1b.out hX5; have g2 := blk_below HG2.out hX5; have k0 : w5.cell? ⟨w1.heap.size, 0, none⟩ = some (.int .i64 at_) := (blk_cell g1 0).trans rfl; have k1 : w5.cell? ⟨w1.heap.size, 1, none⟩ = some (.int .i64 cd) := (blk_cell g1 1).trans rfl; have k2 : w5.cell? ⟨w2.heap.size, 0, none⟩ = some (.int .i64 at_) := (blk_cell g2 0).trans rfl; have k3 : w5.cell? ⟨w2.heap.size, 1, none⟩ = some (.int .i64 cd) := (blk_cell g2 1).trans rfl; have HB5 := Lib.hid (below_then HB4.out HB4.out.size hB5); clear hB5 hX5 g1 g2)))
    go_ret
    exact ⟨rfl, HB5.out⟩
theorem decodes_law (s : ByteArray) (A : Option Addr) (l : List Int) (c : Nat) (w : World) (hs : s.size ≤ 140737488351232) (hr : ReadsInt w .u8 A l.length l) (wl : ∀ n ∈ l, (Lit.int .u8 n).wf = true) (hc : l.length ≤ c) (_ : l.length * 1 ≤ 140737488351232) :
    Calls Try.prog 3 #[.string s, .slice A l.length c] w fun e w' => e = .returned (.bool true) ∧ Below w.heap.size w w' := by
  by_cases h1 : 100 < s.size
  · exact decodes_early s A l.length c w hs hr.2.1 (.inl h1)
  by_cases h2 : 2000 < l.length
  · exact decodes_early s A l.length c w hs hr.2.1 (.inr ⟨by omega, h2⟩)
  have hby := wf_u8 wl
  refine decodes_main s A l c w (knownV s) (nameF (formV s)) (decodeV s l) (by omega) (by omega) (fun W => known_any s W (by omega)) (fun W => rset_any s W (by omega)) (decode_any s A l c w hr hby hc (by omega) (by omega))
    (fun W h => rdecode_any s A l c W (hr.below h) hby hc (by omega) (by omega)) ?_
  by_cases hf : formV s = 0
  · right
    exact ⟨by unfold knownV; rw [hf]; rfl, by rw [hf]; decide +kernel⟩
  · left
    exact ⟨by unfold knownV; simpa using hf, nameF_ne (form_set hf)⟩
end Go.Proofs.Ytpbgpbblbohmgaa
