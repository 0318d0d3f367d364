/- The law BitsEncodes. -/
import Derived.Test.YtijccfblenmfcaaBitsLawB
namespace Go.Proofs.Ytijccfblenmfcaa
open Go.RowKit Go.Shelf Go.Proofs.YtijccfblenmfcaaW.PrintWords

theorem sn_size (xs : List Int) : (strOfNums xs).size = xs.length := by simp [strOfNums, ByteArray.size]
theorem div_add (x m : Int) (hm : 0 < m) : (m + x) / m = 1 + x / m := by
  have h := Int.add_mul_ediv_right x 1 (show m ≠ 0 by omega)
  rw [Int.one_mul] at h
  rw [Int.add_comm m x, h, Int.add_comm]
theorem encL_size0 (f : Nat) : ∀ (l : List Int) (line : Int), l.length ≤ f → ((encL 0 f l line).length : Int) = ((l.length : Int) + 2) / 3 * 4 := by
  induction f with
  | zero => intro l line hf; rw [List.eq_nil_of_length_eq_zero (show l.length = 0 by omega), encL_nil]; rfl
  | succ f ih =>
    intro l line hf
    by_cases h : l.length = 0
    · rw [List.eq_nil_of_length_eq_zero h, encL_nil]; rfl
    · rw [encL_0 f l line h, List.length_append]
      have h3 : (quad (min l.length 3) (v3 l)).length = 4 := rfl
      have h2 := ih (l.drop 3) (line + 4) (by rw [List.length_drop]; omega)
      rw [List.length_drop] at h2
      omega
theorem encL_size (m : Int) (hm : 0 < m) (hm4 : m % 4 = 0) (f : Nat) : ∀ (l : List Int) (line : Int), l.length ≤ f → 0 ≤ line → line ≤ m → line % 4 = 0 → l.length ≠ 0 →
    ((encL m f l line).length : Int) = ((l.length : Int) + 2) / 3 * 4 + (line + ((l.length : Int) + 2) / 3 * 4 - 1) / m * 2 := by
  induction f with
  | zero => intro l line hf _ _ _ h; omega
  | succ f ih =>
    intro l line hf h0 h1 h4 h
    rw [encL_cons m f l line h, List.length_append, List.length_append]
    have h3 : (quad (min l.length 3) (v3 l)).length = 4 := rfl
    have hdl : (l.drop 3).length = l.length - 3 := List.length_drop
    have hlf : (l.drop 3).length ≤ f := by omega
    by_cases hlm : line = m
    · rw [nlOf, lineOf, if_pos ⟨hm, hlm⟩, if_pos ⟨hm, hlm⟩]
      subst hlm
      by_cases hz : (l.drop 3).length = 0
      · rw [List.eq_nil_of_length_eq_zero hz, encL_nil]
        have e : ((l.length : Int) + 2) / 3 = 1 := by omega
        rw [e, show line + 1 * 4 - 1 = line + 3 by omega, div_add _ _ hm, Int.ediv_eq_zero_of_lt (by omega) (by omega)]
        simp [h3]
      · have h2 := ih (l.drop 3) 4 hlf (by omega) (by omega) (by omega) hz
        have e : (((l.drop 3).length : Int) + 2) / 3 = ((l.length : Int) + 2) / 3 - 1 := by omega
        rw [e] at h2
        rw [show line + ((l.length : Int) + 2) / 3 * 4 - 1 = line + (((l.length : Int) + 2) / 3 * 4 - 1) by omega, div_add _ _ hm]
        rw [show (4 : Int) + (((l.length : Int) + 2) / 3 - 1) * 4 - 1 = ((l.length : Int) + 2) / 3 * 4 - 1 by omega] at h2
        rw [show (0 : Int) + 4 = 4 from rfl]
        simp only [List.length_cons, List.length_nil, h3]
        push_cast
        omega
    · rw [nlOf, lineOf, if_neg (fun h => hlm h.2), if_neg (fun h => hlm h.2)]
      by_cases hz : (l.drop 3).length = 0
      · rw [List.eq_nil_of_length_eq_zero hz, encL_nil]
        have e : ((l.length : Int) + 2) / 3 = 1 := by omega
        rw [e, Int.ediv_eq_zero_of_lt (by omega) (by omega)]
        simp [h3]
      · have h2 := ih (l.drop 3) (line + 4) hlf (by omega) (by omega) (by omega) hz
        have e : (((l.drop 3).length : Int) + 2) / 3 = ((l.length : Int) + 2) / 3 - 1 := by omega
        rw [e] at h2
        rw [show line + 4 + (((l.length : Int) + 2) / 3 - 1) * 4 - 1 = line + ((l.length : Int) + 2) / 3 * 4 - 1 by omega] at h2
        simp only [List.length_nil, h3]
        push_cast
        omega
theorem enc_size (m : Int) (l : List Int) (hm0 : 0 ≤ m) (hm4 : m % 4 = 0) : ((encL m l.length l 0).length : Int) = lenV l.length m := by
  by_cases hz : m = 0
  · rw [hz, encL_size0 _ _ _ (Nat.le_refl _), lenV, if_pos (.inl rfl)]
  · by_cases hl : l.length = 0
    · rw [List.eq_nil_of_length_eq_zero hl, encL_nil, lenV, if_pos (.inr (by decide))]; rfl
    · rw [encL_size m (by omega) hm4 _ _ _ (Nat.le_refl _) (by omega) hm0 (by omega) hl, lenV, if_neg (by omega), Int.zero_add]
def lenK (n m : Int) : Int := if fitsV n m = 0 then lenV n m else 0
theorem length_any (n m : Int) (w : World) : Calls Try.prog 16 #[.int .i64 n, .int .i64 m] w fun e w' => e = .returned (.tuple #[.int .i64 (lenK n m), .int .i64 (fitsV n m)]) ∧ w = w' := by
  rcases fits_cases n m with h | h | ⟨h, hm0, hm1, hm4, hn0, hn1⟩
  · rw [lenK, if_neg (by rw [h]; decide), h]; exact length_no n m 1 w h (.inl rfl)
  · rw [lenK, if_neg (by rw [h]; decide), h]; exact length_no n m 2 w h (.inr rfl)
  · rw [lenK, if_pos h, h]; exact length_ok n m w h ⟨hm0, hm1⟩ ⟨hn0, hn1⟩
def sgnK (v : Int) : Int × Bool := if 0 ≤ v ∧ v ≤ 63 then (sgn v, true) else (0, false)
theorem sign_both (v : Int) (w : World) : Calls Try.prog 17 #[.int .i64 v] w fun e w' => e = .returned (.tuple #[.int .u8 (sgnK v).1, .bool (sgnK v).2]) ∧ w = w' := by
  unfold sgnK
  by_cases h : 0 ≤ v ∧ v ≤ 63
  · rw [if_pos h]; exact sign_ok v w h.1 h.2
  · rw [if_neg h]; exact sign_no v w (by omega)
theorem ref_sign (v : Int) (w : World) : Calls Try.prog 18 #[.int .i64 v] w fun e w' => e = .returned (.tuple #[.int .u8 (sgnK v).1, .bool (sgnK v).2]) ∧ Drawn0 w w' := by
  unfold sgnK
  by_cases h : 0 ≤ v ∧ v ≤ 63
  · rw [if_pos h]
    obtain ⟨k, hk⟩ := (esign_ev v h.1 h.2).get
    exact PBitsEncodes.posthornref01_Sign.calls k v _ _ w hk
  · rw [if_neg h]
    obtain ⟨k, hk⟩ := (esign_no v (by omega)).get
    exact PBitsEncodes.posthornref01_Sign.calls k v _ _ w hk
theorem ref_may (n m : Int) (w : World) : Calls Try.prog 19 #[.int .i64 n, .int .i64 m] w fun e w' => e = .returned (.int .i64 (fitsV n m)) ∧ Drawn0 w w' := by
  obtain ⟨k, hk⟩ := (may_ev n m).get
  exact PBitsEncodes.posthornref01_May.calls k n m _ w hk
set_option maxRecDepth 100000 in
set_option maxHeartbeats 1000000 in
theorem encodes_early (A : Option Addr) (l : List Int) (c : Nat) (m n v : Int) (w : World) (hl : l.length ≤ 9223372036854775807) (h : (2000 < l.length ∧ l.length ≤ 1048576) ∨ 1048586 < l.length) :
    Calls Try.prog 8 #[.slice A l.length c, .int .i64 m, .int .i64 n, .int .i64 v] w fun e w' => e = .returned (.bool true) ∧ Below w.heap.size w w' := by
  rcases h with ⟨h1, h2⟩ | h1
  · go_enter Try.func8, Try.ntmps8
    go_wp2_with (first | (go_at_call 9; ((with_reducible refine (alive_any _).mono ?_); rintro e w1 ⟨rfl, hB1⟩; have HB1 := Lib.hid hB1; clear hB1)))
    go_ret
    exact ⟨rfl, HB1.out⟩
  · go_enter Try.func8, Try.ntmps8
    go_wp2_with (first | (go_at_call 9; ((with_reducible refine (alive_any _).mono ?_); rintro e w1 ⟨rfl, hB1⟩; have HB1 := Lib.hid hB1; clear hB1)))
    go_ret
    exact ⟨rfl, HB1.out⟩
set_option maxRecDepth 100000 in
set_option maxHeartbeats 1000000 in
theorem encodes_late (A : Option Addr) (l : List Int) (c : Nat) (m n v E : Int) (s : ByteArray) (w : World) (hl : l.length ≤ 2000 ∨ (1048577 ≤ l.length ∧ l.length ≤ 1048586))
    (HE1 : Hid (Calls Try.prog 12 #[.slice A l.length c, .int .i64 m] w fun e w' => e = .returned (.tuple #[.string s, .int .i64 E]) ∧ Below w.heap.size w w'))
    (HE2 : Hid (∀ W, Below w.heap.size w W → Calls Try.prog 15 #[.slice A l.length c, .int .i64 m] W fun e w' => e = .returned (.tuple #[.string s, .int .i64 E]) ∧ Below W.heap.size W w'))
    (HL : Hid (∀ W, Calls Try.prog 16 #[.int .i64 l.length, .int .i64 m] W fun e w' => e = .returned (.tuple #[.int .i64 s.size, .int .i64 E]) ∧ W = w')) :
    Calls Try.prog 8 #[.slice A l.length c, .int .i64 m, .int .i64 n, .int .i64 v] w fun e w' => e = .returned (.bool true) ∧ Below w.heap.size w w' := by
  have HK := Lib.hid (fun W => length_any n m W)
  have HM := Lib.hid (fun W => ref_may n m W)
  have HS := Lib.hid (fun W => sign_both v W)
  have HS2 := Lib.hid (fun W => ref_sign v W)
  have hg : (fitsV n m == 0) = true ∨ ((fitsV n m == 0) = false ∧ (lenK n m == 0) = true) := by
    by_cases h : fitsV n m = 0
    · exact .inl (beq_iff_eq.mpr h)
    · exact .inr ⟨beq_eq_false_iff_ne.mpr h, by rw [lenK, if_neg h]; rfl⟩
  generalize fitsV n m = G at *
  generalize lenK n m = K at *
  obtain ⟨sc, sb⟩ := sgnK v
  have hsb : (sb != sb) = false := by cases sb <;> rfl
  rcases hl with h1 | ⟨h1, h2⟩
  all_goals
    rcases hg with g1 | ⟨g1, g2⟩
    all_goals
      go_enter Try.func8, Try.ntmps8
      go_wp2_with (first
        | (go_at_call 12; ((with_reducible refine HE1.out.mono ?_); rintro e w1 ⟨rfl, hB1⟩; have HB1 := Lib.hid hB1; clear hB1))
        | (go_at_call 15; ((with_reducible refine (HE2.out _ HB1.out).mono ?_); rintro e w2 ⟨rfl, hB2⟩; have HB2 := Lib.hid (below_then HB1.out HB1.out.size hB2); clear hB2))
        | (go_at_call 16; ((with_reducible refine (HK.out _).mono ?_); rintro e w3 ⟨rfl, rfl⟩))
        | (go_at_call 17; ((with_reducible refine (HS.out _).mono ?_); rintro e w4 ⟨rfl, rfl⟩))
        | (go_at_call 18; ((with_reducible refine (HS2.out _).mono ?_); rintro e w5 ⟨rfl, hD5⟩; have HB5 := Lib.hid (below_then HB2.out HB2.out.size hD5.below); clear hD5))
        | (go_at_call 19; ((with_reducible refine (HM.out _).mono ?_); rintro e w6 ⟨rfl, hD6⟩; have HB6 := Lib.hid (below_then HB5.out HB5.out.size hD6.below); clear hD6))
        | (go_at_call 16; ((with_reducible refine (HL.out _).mono ?_); rintro e w7 ⟨rfl, rfl⟩))
        | (go_at_call 9; ((with_reducible refine (alive_any _).mono ?_); rintro e w8 ⟨rfl, hB8⟩; have HB8 := Lib.hid (below_then HB6.out HB6.out.size hB8); clear hB8)))
      go_ret
      exact ⟨rfl, HB8.out⟩
theorem encodes_law (A : Option Addr) (l : List Int) (c : Nat) (m n v : Int) (w : World) (hr : ReadsInt w .u8 A l.length l) (wl : ∀ n ∈ l, (Lit.int .u8 n).wf = true) (hc : l.length ≤ c) (_ : l.length * 1 ≤ 140737488351232) (_ : (Lit.int .i64 m).wf = true) (_ : (Lit.int .i64 n).wf = true) (_ : (Lit.int .i64 v).wf = true) :
    Calls Try.prog 8 #[.slice A l.length c, .int .i64 m, .int .i64 n, .int .i64 v] w fun e w' => e = .returned (.bool true) ∧ Below w.heap.size w w' := by
  by_cases he : (2000 < l.length ∧ l.length ≤ 1048576) ∨ 1048586 < l.length
  · exact encodes_early A l c m n v w hr.2.1 he
  · have hby := wf_u8 wl
    have hlen : ∀ W, Calls Try.prog 16 #[.int .i64 l.length, .int .i64 m] W fun e w' => e = .returned (.tuple #[.int .i64 (lenK l.length m), .int .i64 (fitsV l.length m)]) ∧ W = w' := fun W => length_any l.length m W
    rcases fits_cases (l.length : Int) m with h | h | ⟨h, hm0, hm1, hm4, _, hl1⟩
    · rw [lenK, h, if_neg (by decide)] at hlen
      exact encodes_late A l c m n v 1 ⟨#[]⟩ w (by omega) (Lib.hid (encode_no A l.length c m 1 w h (.inl rfl))) (Lib.hid fun W hW => ref_encode A l _ c m W (hr.below hW) hc (ref_encode_no l m 1 h (by decide))) (Lib.hid hlen)
    · rw [lenK, h, if_neg (by decide)] at hlen
      exact encodes_late A l c m n v 2 ⟨#[]⟩ w (by omega) (Lib.hid (encode_no A l.length c m 2 w h (.inr rfl))) (Lib.hid fun W hW => ref_encode A l _ c m W (hr.below hW) hc (ref_encode_no l m 2 h (by decide))) (Lib.hid hlen)
    · rw [lenK, h, if_pos rfl, ← enc_size m l hm0 hm4, ← sn_size (encL m l.length l 0)] at hlen
      exact encodes_late A l c m n v 0 _ w (by omega) (Lib.hid (encode_ok A l c m w hr hby hc h ⟨hm0, hm1⟩ (by omega))) (Lib.hid fun W hW => ref_encode A l _ c m W (hr.below hW) hc (ref_encode_ok l m hby h hm4 (by omega))) (Lib.hid hlen)
end Go.Proofs.Ytijccfblenmfcaa
