/- Plain laws of bits: there and back. -/
import Derived.Test.YtijccfblenmfcaaBitsRef5
import Derived.Test.YtijccfblenmfcaaBitsRef2
namespace Go.Proofs.Ytijccfblenmfcaa
open Go.RowKit Go.Proofs.YtijccfblenmfcaaW.PrintWords

theorem bytesOf_str (xs : List Int) (h : Bytes xs) : bytesOf (strOfNums xs) = xs := by
  apply U8_inj (bytesOf_bytes _) h
  simp only [U8, bytesOf, List.map_map]
  have h2 : (strOfNums xs).data.toList = U8 xs := by
    rw [← Go.ByteArray.toList_eq]; exact sn_toList xs
  rw [h2]
  simp only [U8, List.map_map]
  refine List.map_congr_left fun x hx => ?_
  have := h x hx
  simp
  congr 1
  omega
theorem toks_one (x : Int) (t : List Int) (i : Int) (h : x ≠ 13) : toks (x :: t) i = (x, i) :: toks t (i + 1) := by
  rcases t with _ | ⟨y, t⟩
  · rfl
  · rw [toks, if_neg (fun h2 => h h2.1)]
theorem toks_nl (t : List Int) (i : Int) : toks (13 :: 10 :: t) i = toks t (i + 2) := by
  rw [toks, if_pos ⟨rfl, rfl⟩]
section
variable (n : Int) (t : List (Int × Int)) (c i v last : Int) (k : Nat) (out : List Int)
theorem decT_sign (D : Int) (h61 : c ≠ 61) (hv : valV c = D) (hD : 0 ≤ D) (hk : (k + 1) % 4 ≠ 0) : decT n ((c, i) :: t) k v 0 last out = decT n t (k + 1) (v * 64 + D) 0 i out := by
  rw [decT, if_neg (fun h => by omega), if_neg (by omega), if_neg hk]
  simp only [if_neg h61, hv]
theorem decT_sign4 (D : Int) (h61 : c ≠ 61) (hv : valV c = D) (hD : 0 ≤ D) (hk : (k + 1) % 4 = 0) : decT n ((c, i) :: t) k v 0 last out = decT n t (k + 1) 0 0 i (out ++ [(v * 64 + D) / 65536, (v * 64 + D) / 256 % 256, (v * 64 + D) % 256]) := by
  rw [decT, if_neg (fun h => by omega), if_neg (by omega), if_pos hk]
  simp only [if_neg h61, hv]
  rw [(rd_at out _ _ _).1, (take_at out _ _ _).1, if_neg (by simp)]
theorem decT_pad (hk : k % 4 = 2) : decT n ((61, i) :: t) k v 0 last out = decT n t (k + 1) (v * 64) 1 last out := by
  rw [decT, if_neg (fun h => h.2 rfl), if_neg (by omega), if_neg (by omega)]
  simp
theorem decT_pad1 (hk : k % 4 = 3) : decT n ((61, i) :: t) k v 0 last out = if v * 64 % 256 ≠ 0 then ([], last, 12) else decT n t (k + 1) 0 1 last (out ++ [v * 64 / 65536, v * 64 / 256 % 256]) := by
  rw [decT, if_neg (fun h => h.2 rfl), if_neg (by omega), if_pos (by omega)]
  simp only [if_true, Int.add_zero]
  rw [(rd_at out _ _ _).2.1, (take_at out _ _ _).2.1]
theorem decT_pad2 (hk : k % 4 = 3) : decT n ((61, i) :: t) k v 1 last out = if v * 64 / 256 % 256 ≠ 0 then ([], last, 12) else decT n t (k + 1) 0 2 last (out ++ [v * 64 / 65536]) := by
  rw [decT, if_neg (fun h => h.2 rfl), if_neg (by omega), if_pos (by omega)]
  simp only [if_true, Int.add_zero]
  rw [(rd_at out _ _ _).2.2, (take_at out _ _ _).2.2]
end
theorem toks_enc (m line : Int) (t : List Int) (i : Int) : ∃ j, toks (nlOf m line ++ t) i = toks t j := by
  unfold nlOf
  split
  · exact ⟨i + 2, toks_nl t i⟩
  · exact ⟨i, rfl⟩
theorem sgn_val (v : Int) (h0 : 0 ≤ v) (h1 : v < 64) : valV (sgn v) = v ∧ sgn v ≠ 61 ∧ sgn v ≠ 13 := by
  have h := sgn_facts v h0 (by omega)
  exact ⟨h.1, h.2.2.2.1, h.2.2.2.2.1⟩
set_option maxHeartbeats 2000000 in
theorem dec_enc (n m : Int) (f : Nat) : ∀ (l : List Int) (line i last : Int) (k : Nat) (out : List Int), l.length ≤ f → Bytes l → k % 4 = 0 → decT n (toks (encL m f l line) i) k 0 0 last out = (out ++ l, 0, 0) := by
  induction f with
  | zero =>
    intro l line i last k out hf hb hk
    obtain rfl : l = [] := List.eq_nil_of_length_eq_zero (by omega)
    rw [encL_nil, toks, decT, if_pos hk, List.append_nil]
  | succ f ih =>
    intro l line i last k out hf hb hk
    rcases l with _ | ⟨a, _ | ⟨b, _ | ⟨c, t⟩⟩⟩
    · rw [encL_nil, toks, decT, if_pos hk, List.append_nil]
    · have ha := hb a (by simp)
      rw [encL_cons m f _ line (by simp), show min [a].length 3 = 1 from rfl, quad_eq 1 _ (by omega), show List.drop 3 [a] = [] from rfl, encL_nil, if_neg (by omega), if_neg (by omega)]
      rw [show v3 [a] = a * 65536 by simp [v3, rd]]
      obtain ⟨j, hj⟩ := toks_enc m line ([sgn (a * 65536 / 262144 % 64), sgn (a * 65536 / 4096 % 64), 61, 61]) i
      rw [List.append_nil, hj]
      have s0 := sgn_val (a * 65536 / 262144 % 64) (by omega) (by omega)
      have s1 := sgn_val (a * 65536 / 4096 % 64) (by omega) (by omega)
      rw [toks_one _ _ _ s0.2.2, toks_one _ _ _ s1.2.2, toks_one _ _ _ (by decide), toks_one _ _ _ (by decide), toks]
      rw [decT_sign n _ _ _ _ _ _ _ _ s0.2.1 s0.1 (by omega) (by omega), decT_sign n _ _ _ _ _ _ _ _ s1.2.1 s1.1 (by omega) (by omega), decT_pad n _ _ _ _ _ _ (by omega), decT_pad2 n _ _ _ _ _ _ (by omega)]
      rw [if_neg (by omega), decT, if_pos (by omega)]
      congr 3
      omega
    · have ha := hb a (by simp)
      have hb' := hb b (by simp)
      rw [encL_cons m f _ line (by simp), show min [a, b].length 3 = 2 from rfl, quad_eq 2 _ (by omega), show List.drop 3 [a, b] = [] from rfl, encL_nil, if_pos (by omega), if_neg (by omega)]
      rw [show v3 [a, b] = a * 65536 + b * 256 by simp [v3, rd]]
      obtain ⟨j, hj⟩ := toks_enc m line ([sgn ((a * 65536 + b * 256) / 262144 % 64), sgn ((a * 65536 + b * 256) / 4096 % 64), sgn ((a * 65536 + b * 256) / 64 % 64), 61]) i
      rw [List.append_nil, hj]
      have s0 := sgn_val ((a * 65536 + b * 256) / 262144 % 64) (by omega) (by omega)
      have s1 := sgn_val ((a * 65536 + b * 256) / 4096 % 64) (by omega) (by omega)
      have s2 := sgn_val ((a * 65536 + b * 256) / 64 % 64) (by omega) (by omega)
      rw [toks_one _ _ _ s0.2.2, toks_one _ _ _ s1.2.2, toks_one _ _ _ s2.2.2, toks_one _ _ _ (by decide), toks]
      rw [decT_sign n _ _ _ _ _ _ _ _ s0.2.1 s0.1 (by omega) (by omega), decT_sign n _ _ _ _ _ _ _ _ s1.2.1 s1.1 (by omega) (by omega), decT_sign n _ _ _ _ _ _ _ _ s2.2.1 s2.1 (by omega) (by omega), decT_pad1 n _ _ _ _ _ _ (by omega)]
      rw [if_neg (by omega), decT, if_pos (by omega)]
      congr 3
      · omega
      · congr 1; omega
    · have ha := hb a (by simp)
      have hb' := hb b (by simp)
      have hc := hb c (by simp)
      rw [encL_cons m f _ line (by simp), show min (a :: b :: c :: t).length 3 = 3 by simp only [List.length_cons]; omega, quad_eq 3 _ (by omega), show List.drop 3 (a :: b :: c :: t) = t from rfl, if_pos (by omega), if_pos (by omega)]
      rw [show v3 (a :: b :: c :: t) = a * 65536 + b * 256 + c by simp [v3, rd]]
      generalize lineOf m line + 4 = ln
      obtain ⟨j, hj⟩ := toks_enc m line ([sgn ((a * 65536 + b * 256 + c) / 262144 % 64), sgn ((a * 65536 + b * 256 + c) / 4096 % 64), sgn ((a * 65536 + b * 256 + c) / 64 % 64), sgn ((a * 65536 + b * 256 + c) % 64)] ++ encL m f t ln) i
      rw [List.append_assoc, hj]
      have s0 := sgn_val ((a * 65536 + b * 256 + c) / 262144 % 64) (by omega) (by omega)
      have s1 := sgn_val ((a * 65536 + b * 256 + c) / 4096 % 64) (by omega) (by omega)
      have s2 := sgn_val ((a * 65536 + b * 256 + c) / 64 % 64) (by omega) (by omega)
      have s3 := sgn_val ((a * 65536 + b * 256 + c) % 64) (by omega) (by omega)
      simp only [List.cons_append, List.nil_append]
      rw [toks_one _ _ _ s0.2.2, toks_one _ _ _ s1.2.2, toks_one _ _ _ s2.2.2, toks_one _ _ _ s3.2.2]
      rw [decT_sign n _ _ _ _ _ _ _ _ s0.2.1 s0.1 (by omega) (by omega), decT_sign n _ _ _ _ _ _ _ _ s1.2.1 s1.1 (by omega) (by omega), decT_sign n _ _ _ _ _ _ _ _ s2.2.1 s2.1 (by omega) (by omega), decT_sign4 n _ _ _ _ _ _ _ _ s3.2.1 s3.1 (by omega) (by omega)]
      simp only [List.length_cons] at hf
      rw [ih t ln _ _ (k + 1 + 1 + 1 + 1) _ (by omega) (fun x hx => hb x (by simp [hx])) (by omega)]
      rw [List.append_assoc]
      congr 2
      simp only [List.cons_append, List.nil_append, List.cons.injEq, and_true]
      refine ⟨?_, ?_, ?_⟩ <;> omega
theorem encL_bytes (m : Int) (f : Nat) : ∀ (l : List Int) (line : Int), Bytes (encL m f l line) := by
  induction f with
  | zero => intro l line x hx; simp [encL] at hx
  | succ f ih =>
    intro l line
    by_cases h : l.length = 0
    · rw [List.eq_nil_of_length_eq_zero h, encL_nil]; intro x hx; cases hx
    · rw [encL_cons m f l line h]
      refine Bytes.append (Bytes.append ?_ ?_) (ih _ _)
      · unfold nlOf; split <;> (intro x hx; simp at hx; try omega)
      · intro x hx
        simp only [quad, List.mem_cons, List.not_mem_nil, or_false] at hx
        rcases hx with rfl | rfl | rfl | rfl <;> exact q4_byte _ _ _
theorem encL_len (m : Int) (f : Nat) : ∀ (l : List Int) (line : Int), (encL m f l line).length ≤ 6 * f := by
  induction f with
  | zero => intro l line; simp [encL]
  | succ f ih =>
    intro l line
    by_cases h : l.length = 0
    · rw [List.eq_nil_of_length_eq_zero h, encL_nil]; simp
    · rw [encL_cons m f l line h]
      have h1 : (nlOf m line).length ≤ 2 := by unfold nlOf; split <;> simp
      have h2 := ih (l.drop 3) (lineOf m line + 4)
      simp only [List.length_append]
      have h3 : (quad (min l.length 3) (v3 l)).length = 4 := rfl
      omega
theorem dec_back (m : Int) (l : List Int) (hb : Bytes l) (hl : l.length ≤ 100000) : decV (bytesOf (strOfNums (encL m l.length l 0))) = (l, 0, 0) := by
  have hlen := encL_len m l.length l 0
  rw [bytesOf_str _ (encL_bytes _ _ _ _), decV, if_neg (by omega), dec_enc _ m l.length l 0 0 0 0 [] (Nat.le_refl _) hb rfl, List.nil_append]
end Go.Proofs.Ytijccfblenmfcaa
