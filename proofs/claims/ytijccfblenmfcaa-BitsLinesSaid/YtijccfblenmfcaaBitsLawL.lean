/- The law BitsLines. -/
import Derived.Test.YtijccfblenmfcaaBitsLawB
namespace Go.Proofs.Ytijccfblenmfcaa
open Go.RowKit Go.Shelf Go.Proofs.YtijccfblenmfcaaW.PrintWords

/-- How the law counts lines: the last one's length; none: it tells false. -/
def lin (m : Int) : List Int → Int → Option Int
  | [], n => some n
  | [x], n => if x = 13 then none else some (n + 1)
  | x :: y :: t, n => if x = 13 then (if n = m ∧ t ≠ [] ∧ y = 10 then lin m t 0 else none) else lin m (y :: t) (n + 1)
theorem lin_step (m x : Int) (t : List Int) (n : Int) (h : x ≠ 13) : lin m (x :: t) n = lin m t (n + 1) := by
  rcases t with _ | ⟨y, t⟩
  · show (if x = 13 then none else some (n + 1)) = some (n + 1)
    rw [if_neg h]
  · rw [lin, if_neg h]
theorem q4_13 (n : Nat) (v : Int) (i : Nat) : q4 n v i ≠ 13 := by
  unfold q4
  split
  · exact (sgn_val (v / 2 ^ (18 - 6 * i) % 64) (Int.emod_nonneg _ (by decide)) (Int.emod_lt_of_pos _ (by decide))).2.2
  · decide
theorem lin_quad (m : Int) (k : Nat) (v : Int) (t : List Int) (n : Int) : lin m (quad k v ++ t) n = lin m t (n + 4) := by
  simp only [quad, List.cons_append, List.nil_append]
  rw [lin_step _ _ _ _ (q4_13 _ _ _), lin_step _ _ _ _ (q4_13 _ _ _), lin_step _ _ _ _ (q4_13 _ _ _), lin_step _ _ _ _ (q4_13 _ _ _)]
  congr 1
  omega
theorem lin_nl (m : Int) (t : List Int) (h : t ≠ []) : lin m (13 :: 10 :: t) m = lin m t 0 := by
  rw [lin, if_pos rfl, if_pos ⟨rfl, h, rfl⟩]
theorem lin_enc (m : Int) (hm : 0 < m) (hm4 : m % 4 = 0) (f : Nat) : ∀ (l : List Int) (line : Int), l.length ≤ f → 0 ≤ line → line ≤ m → line % 4 = 0 → ∃ r, lin m (encL m f l line) line = some r ∧ 0 ≤ r ∧ r ≤ m ∧ (0 < r ↔ (0 < line ∨ l ≠ [])) := by
  induction f with
  | zero =>
    intro l line hf h0 h1 h4
    obtain rfl : l = [] := List.eq_nil_of_length_eq_zero (by omega)
    exact ⟨line, by rw [encL_nil]; rfl, h0, h1, by simp⟩
  | succ f ih =>
    intro l line hf h0 h1 h4
    by_cases hl : l.length = 0
    · obtain rfl : l = [] := List.eq_nil_of_length_eq_zero hl
      exact ⟨line, by rw [encL_nil]; rfl, h0, h1, by simp⟩
    · have hne : l ≠ [] := fun h => hl (by rw [h]; rfl)
      rw [encL_cons m f l line hl]
      by_cases hlm : line = m
      · rw [nlOf, lineOf, if_pos ⟨hm, hlm⟩, if_pos ⟨hm, hlm⟩]
        obtain ⟨r, hr, hr0, hr1, hr2⟩ := ih (l.drop 3) (0 + 4) (by rw [List.length_drop]; omega) (by omega) (by omega) (by omega)
        refine ⟨r, ?_, hr0, hr1, by simp [hne]; exact hr2.2 (.inl (by omega))⟩
        simp only [List.cons_append, List.nil_append, List.append_assoc]
        rw [hlm, lin_nl _ _ (by simp [quad]), lin_quad]
        exact hr
      · rw [nlOf, lineOf, if_neg (fun h => hlm h.2), if_neg (fun h => hlm h.2), List.nil_append, lin_quad]
        obtain ⟨r, hr, hr0, hr1, hr2⟩ := ih (l.drop 3) (line + 4) (by rw [List.length_drop]; omega) (by omega) (by omega) (by omega)
        exact ⟨r, hr, hr0, hr1, by simp [hne]; exact hr2.2 (.inl (by omega))⟩
theorem lin_at (m : Int) (xs : List Int) (i : Nat) (n r : Int) (hi : i < xs.length) (h : lin m (xs.drop i) n = some r) :
    (rd xs (i : Int) = 13 ∧ n = m ∧ i + 2 < xs.length ∧ rd xs ((i + 1 : Nat) : Int) = 10 ∧ lin m (xs.drop (i + 2)) 0 = some r) ∨ (rd xs (i : Int) ≠ 13 ∧ lin m (xs.drop (i + 1)) (n + 1) = some r) := by
  rw [rd_lt xs i hi]
  by_cases h13 : xs[i] = 13
  · left
    rw [List.drop_eq_getElem_cons hi] at h
    by_cases h2 : i + 1 < xs.length
    · rw [List.drop_eq_getElem_cons h2, lin, if_pos h13] at h
      by_cases h3 : n = m ∧ xs.drop (i + 1 + 1) ≠ [] ∧ xs[i + 1] = 10
      · rw [if_pos h3] at h
        refine ⟨h13, h3.1, ?_, by rw [rd_lt xs (i + 1) h2]; exact h3.2.2, h⟩
        rcases Nat.lt_or_ge (i + 2) xs.length with h5 | h5
        · exact h5
        · exact absurd (List.drop_eq_nil_of_le h5) h3.2.1
      · rw [if_neg h3] at h; cases h
    · rw [List.drop_eq_nil_of_le (show xs.length ≤ i + 1 by omega), lin, if_pos h13] at h; cases h
  · right
    rw [List.drop_eq_getElem_cons hi, lin_step _ _ _ _ h13] at h
    exact ⟨h13, h⟩
set_option maxRecDepth 100000 in
set_option maxHeartbeats 1000000 in
theorem lines_plain (A : Option Addr) (l : List Int) (c : Nat) (m code : Int) (s : ByteArray) (w : World) (h4 : l.length ≤ 4000) (hc : (code != 0) = true ∨ ((code != 0) = false ∧ (m == 0) = true)) (HE : Hid (Calls Try.prog 12 #[.slice A l.length c, .int .i64 m] w fun e w' => e = .returned (.tuple #[.string s, .int .i64 code]) ∧ Below w.heap.size w w')) :
    Calls Try.prog 6 #[.slice A l.length c, .int .i64 m] w fun e w' => e = .returned (.bool true) ∧ Below w.heap.size w w' := by
  rcases hc with h | ⟨h, h2⟩
  all_goals
    go_enter Try.func6, Try.ntmps6
    go_wp2_with (first
      | (go_at_call 12; ((with_reducible refine HE.out.mono ?_); rintro e w1 ⟨rfl, hB1⟩; have HB1 := Lib.hid hB1; clear hB1))
      | (go_at_call 9; ((with_reducible refine (alive_any _).mono ?_); rintro e w2 ⟨rfl, hB2⟩; have HB2 := Lib.hid (below_then HB1.out HB1.out.size hB2); clear hB2)))
    go_ret
    exact ⟨rfl, HB2.out⟩
set_option maxRecDepth 100000 in
set_option maxHeartbeats 1000000 in
theorem lines_walk (A : Option Addr) (l : List Int) (c : Nat) (m r : Int) (s : ByteArray) (w : World) (h4 : l.length ≤ 4000) (hm : (m == 0) = false) (hs : s.size ≤ 100000) (hr0 : 0 ≤ r) (hr1 : r ≤ m) (hm76 : m ≤ 76) (hrl : 0 < r ↔ 0 < l.length) (hlin : lin m (bytesOf s) 0 = some r)
    (HE : Hid (Calls Try.prog 12 #[.slice A l.length c, .int .i64 m] w fun e w' => e = .returned (.tuple #[.string s, .int .i64 0]) ∧ Below w.heap.size w w')) :
    Calls Try.prog 6 #[.slice A l.length c, .int .i64 m] w fun e w' => e = .returned (.bool true) ∧ Below w.heap.size w w' := by
  have HL : Hid ((bytesOf s).length = s.size) := Lib.hid (bytesOf_length s)
  have HLIN := Lib.hid hlin
  have HRL := Lib.hid hrl
  clear hlin hrl
  go_enter Try.func6, Try.ntmps6
  go_wp2_with (first
    | (go_at_call 12; ((with_reducible refine HE.out.mono ?_); rintro e w1 ⟨rfl, hB1⟩; have HB1 := Lib.hid hB1; clear hB1)))
  go_loop [7, 8] (fun s7 s8 => ∃ (n : Int) (i : Nat), 0 ≤ n ∧ n ≤ i ∧ i ≤ s.size ∧ s7 = .int .i64 n ∧ s8 = .int .i64 i ∧ Hid (lin m ((bytesOf s).drop i) n = some r)) (fun _ s8 => s.size - (intOf s8).toNat)
  case atStart => exact ⟨0, 0, Int.le_refl _, by omega, Nat.zero_le _, rfl, rfl, Lib.hid HLIN.out⟩
  case round =>
    obtain ⟨n, i, hn0, hn1, hi, rfl, rfl, HLI⟩ := hrel
    by_cases hlt : i < s.size
    · have hbt := bt_at s i hlt
      simp only [Int.toNat_natCast] at hbt
      rcases lin_at m (bytesOf s) i n r (by rw [HL.out]; exact hlt) HLI.out with ⟨h13, hnm, hi2, h10, hnext⟩ | ⟨h13, hnext⟩
      · rw [rd_bytesOf] at h13 h10
        rw [HL.out] at hi2
        have hbt2 := bt_at s ((i + 1 : Nat) : Int) (by simp only [Int.toNat_natCast]; omega)
        simp only [Int.toNat_natCast] at hbt2
        rw [h10] at hbt2
        rw [h13] at hbt
        have b1 : (n != m) = false := bne_eq_false_iff_eq.mpr hnm
        have HN := Lib.hid hnext
        clear hnm h10 h13 hnext
        go_wp2
        go_round
        case rel => exact ⟨0, i + 2, Int.le_refl _, by omega, by omega, rfl, by go_num, HN⟩
        case measure => simp [intOf]; omega
      · rw [rd_bytesOf] at h13
        generalize bt s (i : Int) = x at *
        have b1 : (x == 13) = false := beq_eq_false_iff_ne.mpr h13
        have HN := Lib.hid hnext
        clear h13 hnext
        go_wp2
        go_round
        case rel => exact ⟨n + 1, i + 1, by omega, by omega, hlt, by go_num, by go_num, HN⟩
        case measure => simp [intOf]; omega
    · have hnr : n = r := by
        have h := HLI.out
        rw [List.drop_eq_nil_of_le (by rw [HL.out]; omega)] at h
        simpa [lin] using h
      subst hnr
      have b1 : (decide ((0 : Int) < n) == decide ((0 : Int) < (l.length : Int))) = true := by
        rw [beq_iff_eq, decide_eq_decide]
        have := HRL.out
        omega
      go_wp2_with (first
        | (go_at_call 9; ((with_reducible refine (alive_any _).mono ?_); rintro e w2 ⟨rfl, hB2⟩; have HB2 := Lib.hid (below_then HB1.out HB1.out.size hB2); clear hB2)))
      go_ret
      exact ⟨by simp; exact HRL.out, HB2.out⟩
set_option maxRecDepth 100000 in
set_option maxHeartbeats 1000000 in
theorem lines_early (A : Option Addr) (l : List Int) (c : Nat) (m : Int) (w : World) (hl : l.length ≤ 9223372036854775807) (h : 4000 < l.length) :
    Calls Try.prog 6 #[.slice A l.length c, .int .i64 m] w fun e w' => e = .returned (.bool true) ∧ Below w.heap.size w w' := by
  go_enter Try.func6, Try.ntmps6
  go_wp2_with (first | (go_at_call 9; ((with_reducible refine (alive_any _).mono ?_); rintro e w1 ⟨rfl, hB1⟩; have HB1 := Lib.hid hB1; clear hB1)))
  go_ret
  exact ⟨rfl, HB1.out⟩
theorem lines_law (A : Option Addr) (l : List Int) (c : Nat) (m : Int) (w : World) (hr : ReadsInt w .u8 A l.length l) (wl : ∀ n ∈ l, (Lit.int .u8 n).wf = true) (hc : l.length ≤ c) (_ : l.length * 1 ≤ 140737488351232) (_ : (Lit.int .i64 m).wf = true) :
    Calls Try.prog 6 #[.slice A l.length c, .int .i64 m] w fun e w' => e = .returned (.bool true) ∧ Below w.heap.size w w' := by
  by_cases h4 : 4000 < l.length
  · exact lines_early A l c m w hr.2.1 h4
  · have hby := wf_u8 wl
    rcases fits_cases (l.length : Int) m with h | h | ⟨h, hm0, hm1, hm4, _, _⟩
    · exact lines_plain A l c m 1 ⟨#[]⟩ w (by omega) (.inl rfl) (Lib.hid (encode_no A l.length c m 1 w h (.inl rfl)))
    · exact lines_plain A l c m 2 ⟨#[]⟩ w (by omega) (.inl rfl) (Lib.hid (encode_no A l.length c m 2 w h (.inr rfl)))
    · have HE := Lib.hid (encode_ok A l c m w hr hby hc h ⟨hm0, hm1⟩ (by omega))
      have hlen := encL_len m l.length l 0
      by_cases hz : m = 0
      · exact lines_plain A l c m 0 _ w (by omega) (.inr ⟨rfl, beq_iff_eq.mpr hz⟩) HE
      · obtain ⟨r, hr1, hr2, hr3, hr4⟩ := lin_enc m (by omega) hm4 l.length l 0 (Nat.le_refl _) (by omega) hm0 (by omega)
        refine lines_walk A l c m r _ w (by omega) (beq_eq_false_iff_ne.mpr hz) ?_ hr2 hr3 hm1 ?_ ?_ HE
        · simp only [strOfNums, ByteArray.size, List.size_toArray, List.length_map]; omega
        · rw [hr4]
          constructor
          · rintro (h | h)
            · omega
            · rcases l with _ | _
              · exact absurd rfl h
              · simp
          · intro h
            right
            intro he
            rw [he] at h; simp at h
        · rw [bytesOf_str _ (encL_bytes _ _ _ _)]; exact hr1
end Go.Proofs.Ytijccfblenmfcaa
