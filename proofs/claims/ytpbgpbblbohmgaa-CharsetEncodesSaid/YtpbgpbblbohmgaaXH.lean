/- The law CharsetEncodes. -/
import Derived.Test.YtpbgpbblbohmgaaXF
import Derived.Test.YtpbgpbblbohmgaaXD
namespace Go.Proofs.Ytpbgpbblbohmgaa
open Go.RowKit Go.Proofs.YtpbgpbblbohmgaaW.PrintWords

def leastV (l : List Int) : ByteArray := if l.any (fun x => decide (127 < x)) = true then ⟨#[117, 116, 102, 45, 56]⟩ else ⟨#[117, 115, 45, 97, 115, 99, 105, 105]⟩
theorem leastV_no {l : List Int} (h : ∀ x ∈ l, ¬ 127 < x) : leastV l = ⟨#[117, 115, 45, 97, 115, 99, 105, 105]⟩ := by
  unfold leastV
  rw [if_neg]
  simp only [List.any_eq_true, decide_eq_true_eq, not_exists, not_and]
  exact h
theorem leastV_yes {l : List Int} {x : Int} (hx : x ∈ l) (h : 127 < x) : leastV l = ⟨#[117, 116, 102, 45, 56]⟩ := by
  unfold leastV
  rw [if_pos]
  simp only [List.any_eq_true, decide_eq_true_eq]
  exact ⟨x, hx, h⟩
theorem leastV_snoc (l : List Int) (x : Int) : leastV (l ++ [x]) = if 127 < x then ⟨#[117, 116, 102, 45, 56]⟩ else leastV l := by
  by_cases h : 127 < x
  · rw [if_pos h]; exact leastV_yes (List.mem_append_right _ List.mem_cons_self) h
  · rw [if_neg h]
    unfold leastV
    simp [List.any_append, h]
set_option maxHeartbeats 1000000 in
theorem least_any (A : Option Addr) (l : List Int) (c : Nat) (w : World) (hr : ReadsInt w .u8 A l.length l) (hby : Bytes l) : Calls Try.prog 18 #[.slice A l.length c] w fun e w' => e = .returned (.string (leastV l)) ∧ w = w' := by
  have hm := hr.2.1
  have HR := Lib.hid hr
  have HBY := Lib.hid hby
  obtain ⟨V, hV⟩ : ∃ V, leastV l = V := ⟨_, rfl⟩
  rw [hV]
  have HV := Lib.hid hV
  clear hr hby hV
  go_enter Try.func18, Try.ntmps18
  go_wp2
  go_loop [7] (fun s7 => ∃ k : Nat, k ≤ l.length ∧ s7 = .int .i64 k ∧ Hid (∀ x ∈ l.take k, ¬ 127 < x)) (fun s7 => l.length - (intOf s7).toNat)
  case atStart => exact ⟨0, Nat.zero_le _, rfl, Lib.hid (by simp)⟩
  case round =>
    obtain ⟨k, hk, rfl, HA⟩ := hrel
    by_cases hlt : k < l.length
    · obtain ⟨ad, rfl, hcell⟩ := HR.out.at_ (k : Int) (by omega) (by omega)
      simp only [Int.toNat_natCast] at hcell
      have HTK := Lib.hid (List.take_succ_eq_append_getElem hlt)
      rw [← rd_lt l k hlt] at HTK
      have HIN : Hid (rd l (k : Int) ∈ l) := Lib.hid (by rw [rd_lt l k hlt]; exact List.getElem_mem hlt)
      have hcb := HBY.out.rd k
      generalize rd l (k : Int) = x at *
      by_cases hx : 127 < x
      · have HV2 : Hid (V = ⟨#[117, 116, 102, 45, 56]⟩) := Lib.hid (HV.out.symm.trans (leastV_yes HIN.out hx))
        go_wp2
        go_ret
        exact ⟨by rw [HV2.out]; rfl, rfl⟩
      · go_wp2
        go_round
        case rel => exact ⟨k + 1, hlt, by go_num, Lib.hid (by rw [HTK.out]; intro y hy; rcases List.mem_append.1 hy with hy | hy; exact HA.out y hy; rw [List.mem_singleton] at hy; rw [hy]; exact hx)⟩
        case measure => simp [intOf]; omega
    · have HV2 : Hid (V = ⟨#[117, 115, 45, 97, 115, 99, 105, 105]⟩) := Lib.hid (HV.out.symm.trans (leastV_no (fun x hx => HA.out x (by rw [show k = l.length by omega, List.take_length]; exact hx))))
      go_wp2
      go_ret
      exact ⟨by rw [HV2.out]; rfl, rfl⟩
set_option maxRecDepth 100000 in
set_option maxHeartbeats 1000000 in
theorem encodes_early (s : ByteArray) (A : Option Addr) (n c : Nat) (w : World) (hs : s.size ≤ 140737488351232) (hn : n ≤ 9223372036854775807) (h : 100 < s.size ∨ (s.size ≤ 100 ∧ 1000 < n)) :
    Calls Try.prog 8 #[.string s, .slice A n c] w fun e w' => e = .returned (.bool true) ∧ Below w.heap.size w w' := by
  rcases h with h | ⟨h, h2⟩
  all_goals
    go_enter Try.func8, Try.ntmps8
    go_wp2_with (first | (go_at_call 9; ((with_reducible refine (alive_any _).mono ?_); rintro e w1 ⟨rfl, hB1⟩; have HB1 := Lib.hid hB1; clear hB1)))
    go_ret
    exact ⟨rfl, HB1.out⟩
set_option maxRecDepth 100000 in
set_option maxHeartbeats 4000000 in
theorem encodes_main (s : ByteArray) (A : Option Addr) (l : List Int) (c : Nat) (w : World) (r : List Int × Int × Int) (h1 : s.size ≤ 100) (h2 : l.length ≤ 1000) (hr : ReadsInt w .u8 A l.length l) (hby : Bytes l)
    (hD : Calls Try.prog 14 #[.string s, .slice A l.length c] w (TxtPost w r)) (hR : ∀ W, Below w.heap.size w W → Calls Try.prog 17 #[.string s, .slice A l.length c] W (TxtPost W r)) :
    Calls Try.prog 8 #[.string s, .slice A l.length c] w fun e w' => e = .returned (.bool true) ∧ Below w.heap.size w w' := by
  have HD := Lib.hid hD
  have HR := Lib.hid hR
  have HRL := Lib.hid hr
  have HBY := Lib.hid hby
  clear hD hR hr hby
  obtain ⟨x, at_, cd⟩ := r
  go_enter Try.func8, Try.ntmps8
  go_wp2_with (first
    | (go_at_call 14; ((with_reducible refine HD.out.mono ?_); rintro e w1 ⟨v, rfl, hO, hB⟩; obtain ⟨A1, c1, rfl, hc1, hR1⟩ := (hO.alloc (.cells #[.int .i64 at_, .int .i64 cd] 26)).reads; have HR1 : Hid (ReadsInt (w1.alloc (.cells #[.int .i64 at_, .int .i64 cd] 26)) .u8 A1 x.length x) := Lib.hid hR1; have HB1 := Lib.hid (below_alloc hB (.cells #[.int .i64 at_, .int .i64 cd] 26)); have HG1 := Lib.hid (heap_alloc_new w1 (.cells #[.int .i64 at_, .int .i64 cd] 26)); clear hO hB hR1 hc1))
    | (go_at_call 17; ((with_reducible refine (HR.out _ HB1.out).mono ?_); rintro e w2 ⟨v2, rfl, hO2, hB2⟩; obtain ⟨A2, c2, rfl, hc2, hR2⟩ := (hO2.alloc (.cells #[.int .i64 at_, .int .i64 cd] 26)).reads; have HR2 : Hid (ReadsInt (w2.alloc (.cells #[.int .i64 at_, .int .i64 cd] 26)) .u8 A2 x.length x) := Lib.hid hR2; have HX2 := Lib.hid (below_alloc hB2 (.cells #[.int .i64 at_, .int .i64 cd] 26)); have HB2 := Lib.hid (below_then HB1.out HB1.out.size HX2.out); have HR1b := Lib.hid (HR1.out.below HX2.out); have HG1b := Lib.hid (blk_below HG1.out HX2.out); have HG2 := Lib.hid (heap_alloc_new w2 (.cells #[.int .i64 at_, .int .i64 cd] 26)); have HRLb := Lib.hid (HRL.out.below HB2.out); clear hO2 hB2 hR2 hc2)))
  generalize (w2.alloc (.cells #[.int .i64 at_, .int .i64 cd] 26)) = w3 at *
  go_loop [9, 10] (fun s9 s10 => ∃ k : Nat, k ≤ l.length ∧ s10 = .int .i64 k ∧ s9 = .string (leastV (l.take k))) (fun _ s10 => l.length - (intOf s10).toNat)
  case atStart => exact ⟨0, Nat.zero_le _, rfl, rfl⟩
  case round =>
    obtain ⟨k, hk, rfl, rfl⟩ := hrel
    by_cases hlt : k < l.length
    · obtain ⟨ad, rfl, hcell⟩ := HRLb.out.at_ (k : Int) (by omega) (by omega)
      simp only [Int.toNat_natCast] at hcell
      have hts := take_succ_rd l k hlt
      have HTS := Lib.hid (leastV_snoc (l.take k) (rd l (k : Int)))
      rw [← hts] at HTS
      have hcb := HBY.out.rd k
      generalize rd l (k : Int) = y at *
      generalize leastV (l.take k) = ls at *
      clear hts
      by_cases hy : 128 ≤ y
      · have HT2 : Hid (leastV (l.take (k + 1)) = ⟨#[117, 116, 102, 45, 56]⟩) := Lib.hid (by rw [HTS.out, if_pos (by omega)])
        go_wp2
        go_round
        case rel => exact ⟨k + 1, hlt, by go_num, by rw [HT2.out]⟩
        case measure => simp [intOf]; omega
      · have HT2 : Hid (leastV (l.take (k + 1)) = ls) := Lib.hid (by rw [HTS.out, if_neg (by omega)])
        go_wp2
        go_round
        case rel => exact ⟨k + 1, hlt, by go_num, by rw [HT2.out]⟩
        case measure => simp [intOf]; omega
    · obtain rfl : k = l.length := by omega
      rw [List.take_length]
      have HLC := Lib.hid (fun W h => least_any A l c W h HBY.out)
      generalize leastV l = ls at *
      go_wp2_with (first
        | (go_at_call 9; ((with_reducible refine (alive_any _).mono ?_); rintro e w5 ⟨rfl, hX5⟩; have kc1 := string_of_reads (P := Try.prog) (c := c1) Try.underlying22 Try.underlying5 Try.underlying9 (HR1b.out.below hX5); have kc2 := string_of_reads (P := Try.prog) (c := c2) Try.underlying22 Try.underlying5 Try.underlying9 (HR2.out.below hX5); have g1 := blk_below HG1b.out hX5; have g2 := blk_below HG2.out hX5; have k0 : w5.cell? ⟨w1.heap.size, 0, none⟩ = some (.int .i64 at_) := (blk_cell g1 0).trans rfl; have k1 : w5.cell? ⟨w1.heap.size, 1, none⟩ = some (.int .i64 cd) := (blk_cell g1 1).trans rfl; have k2 : w5.cell? ⟨w2.heap.size, 0, none⟩ = some (.int .i64 at_) := (blk_cell g2 0).trans rfl; have k3 : w5.cell? ⟨w2.heap.size, 1, none⟩ = some (.int .i64 cd) := (blk_cell g2 1).trans rfl; have HRL5 := Lib.hid (HRLb.out.below hX5); have HB5 := Lib.hid (below_then HB2.out HB2.out.size hX5); clear hX5 g1 g2))
        | (go_at_call 18; ((with_reducible refine (HLC.out _ HRL5.out).mono ?_); rintro e w6 ⟨rfl, rfl⟩)))
      go_ret
      exact ⟨rfl, HB5.out⟩
theorem encodes_law (s : ByteArray) (A : Option Addr) (l : List Int) (c : Nat) (w : World) (hs : s.size ≤ 140737488351232) (hr : ReadsInt w .u8 A l.length l) (wl : ∀ n ∈ l, (Lit.int .u8 n).wf = true) (hc : l.length ≤ c) (_ : l.length * 1 ≤ 140737488351232) :
    Calls Try.prog 8 #[.string s, .slice A l.length c] w fun e w' => e = .returned (.bool true) ∧ Below w.heap.size w w' := by
  by_cases h1 : 100 < s.size
  · exact encodes_early s A l.length c w hs hr.2.1 (.inl h1)
  by_cases h2 : 1000 < l.length
  · exact encodes_early s A l.length c w hs hr.2.1 (.inr ⟨by omega, h2⟩)
  have hby := wf_u8 wl
  exact encodes_main s A l c w (encodeV s l) (by omega) (by omega) hr hby (encode_any s A l c w hr hby hc (by omega) (by omega)) (fun W h => rencode_any s A l c W (hr.below h) hby hc (by omega) (by omega))
end Go.Proofs.Ytpbgpbblbohmgaa
