/- The document's answers for bits: what its printed functions come to. -/
import Derived.Test.YtijccfblenmfcaaBitsDec
import Derived.Test.YtijccfblenmfcaaEv
import Derived.Test.YtijccfblenmfcaaPBitsDecodesx2
import Derived.Test.YtijccfblenmfcaaPBitsEncodesx2
namespace Go.Proofs.Ytijccfblenmfcaa
open Go.RowKit Go.Proofs.YtijccfblenmfcaaW.PrintWords

open PBitsDecodes in
theorem dsign_all : ∀ v : Fin 64, posthornref01_Sign.f 5 (v.val : Int) = some (sgn v.val, true) := by decide +kernel
open PBitsDecodes in
theorem dvalue_all : ∀ c : Fin 256, posthornref01_Value.f 80 (c.val : Int) = some (valV c.val) := by decide +kernel
open PBitsDecodes in
theorem dvalue_ev (c : Int) (h0 : 0 ≤ c) (h1 : c ≤ 255) : Ev (fun k => posthornref01_Value.f k c) (valV c) := by
  refine Ev.mono (fun k => posthornref01_Value.mono c k) 80 ?_
  have h := dvalue_all ⟨c.toNat, by omega⟩
  rwa [show ((c.toNat : Nat) : Int) = c by omega] at h
open PBitsEncodes in
theorem esign_all : ∀ v : Fin 64, posthornref01_Sign.f 5 (v.val : Int) = some (sgn v.val, true) := by decide +kernel
open PBitsEncodes in
theorem esign_ev (v : Int) (h0 : 0 ≤ v) (h1 : v ≤ 63) : Ev (fun k => posthornref01_Sign.f k v) (sgn v, true) := by
  refine Ev.mono (fun k => posthornref01_Sign.mono v k) 5 ?_
  have h := esign_all ⟨v.toNat, by omega⟩
  rwa [show ((v.toNat : Nat) : Int) = v by omega] at h
open PBitsEncodes in
theorem esign_no (v : Int) (h : v < 0 ∨ 63 < v) : Ev (fun k => posthornref01_Sign.f k v) (0, false) := by
  refine Ev.mono (fun k => posthornref01_Sign.mono v k) 5 ?_
  rcases h with h | h
  · simp only [posthornref01_Sign.f, posthornref01_Sign.j0, posthornref01_Sign.j1, posthornref01_Sign.j2]
    rw [if_neg (by omega), if_neg (by decide), if_neg (by omega), if_neg (by decide), if_neg (by omega), if_neg (by decide), if_neg (by omega), if_neg (by omega)]
  · simp only [posthornref01_Sign.f, posthornref01_Sign.j0, posthornref01_Sign.j1, posthornref01_Sign.j2]
    rw [if_pos (by omega), if_neg (by simp; omega), if_pos (by omega), if_neg (by simp; omega), if_pos (by omega), if_neg (by simp; omega), if_neg (by omega), if_neg (by omega)]
open PBitsEncodes in
theorem may_ev (n m : Int) : Ev (fun k => posthornref01_May.f k n m) (fitsV n m) := by
  refine Ev.mono (fun k => posthornref01_May.mono n m k) 3 ?_
  unfold fitsV
  simp only [posthornref01_May.f, posthornref01_May.j0, if_true]
  by_cases h1 : m < 0
  · rw [if_pos h1, if_pos (.inl h1)]
  · rw [if_neg h1]
    by_cases h2 : m > 76
    · rw [if_pos h2, if_pos (.inr (.inl h2))]
    · rw [if_neg h2, tmod_pos m 4 (by omega)]
      by_cases h3 : m % 4 > 0
      · rw [if_pos h3, if_pos (by omega)]
      · rw [if_neg h3]
        by_cases h4 : n < 0
        · rw [if_pos (by simpa using h4), if_pos (by omega)]
        · rw [if_neg (by simpa using h4), if_neg (show ¬ (m < 0 ∨ m > 76 ∨ m % 4 ≠ 0 ∨ n < 0) by omega)]
          by_cases h5 : n > 1048576
          · rw [if_pos h5, if_pos h5]
          · rw [if_neg h5, if_neg h5]

/-- A byte's digits, the greatest first. -/
def dig8 (x : Int) : List Int := [x / 128 % 2, x / 64 % 2, x / 32 % 2, x / 16 % 2, x / 8 % 2, x / 4 % 2, x / 2 % 2, x % 2]
def digs (l : List Int) : List Int := l.flatMap dig8
theorem digs_len (l : List Int) : (digs l).length = 8 * l.length := by
  induction l with
  | nil => rfl
  | cons a t ih => simp only [digs, List.flatMap_cons, List.length_append, List.length_cons] at *; rw [ih]; simp [dig8]; omega
open PBitsEncodes in
theorem digits_loop (l : List Int) (hl : l.length ≤ 1048576) (hb : Bytes l) (f : Nat) : ∀ (i : Nat) (acc : List Int), i ≤ l.length → l.length - i ≤ f → acc.length = 8 * i → Ev (fun k => posthornref01_digits.l0 k l acc (i : Int)) (acc ++ digs (l.drop i)) := by
  induction f with
  | zero =>
    intro i acc hi hf ha
    refine Ev.step (by intro k; rw [posthornref01_digits.l0]) ?_
    refine Ev.neg (by omega) ?_
    rw [List.drop_eq_nil_of_le (by omega)]
    simpa [digs] using Ev.done acc
  | succ f ih =>
    intro i acc hi hf ha
    by_cases hlt : i < l.length
    · have hx := hb.rd i
      have hd : digs (l.drop i) = dig8 (rd l (i : Int)) ++ digs (l.drop (i + 1)) := by
        rw [rd_lt l i hlt, List.drop_eq_getElem_cons hlt]; rfl
      have e : acc ++ digs (l.drop i) = (acc ++ dig8 (rd l (i : Int))) ++ digs (l.drop (i + 1)) := by rw [hd, List.append_assoc]
      rw [e]
      have hn := ih (i + 1) (acc ++ dig8 (rd l (i : Int))) hlt (by omega) (by simp [dig8]; omega)
      generalize hy : rd l (i : Int) = x at *
      obtain ⟨hx0, hx1⟩ := hx
      have H : ∀ (n : Int) (a : List Int) (g : Nat → Option (List Int)) (r : List Int), 0 < n → a.length < 17592186044416 → (∀ k, g k = posthornref01_digits.l1 k l (a ++ [x / n % 2]) (i : Int) (n / 2)) → Ev g r → n ≤ 128 → Ev (fun k => posthornref01_digits.l1 k l a (i : Int) n) r := by
        intro n a g r hn ha hg hr hn2
        refine Ev.step (by intro k; rw [posthornref01_digits.l1]) ?_
        refine Ev.pos (by omega) ?_; refine Ev.pos (by omega) ?_; refine Ev.pos (by omega) ?_; refine Ev.neg (by omega) ?_
        refine Ev.pos ha ?_
        rw [hy]
        have hq : 0 ≤ x / n ∧ x / n ≤ x := ⟨Int.ediv_nonneg hx0 (by omega), Int.ediv_le_self _ hx0⟩
        rw [wrap64_id x (by omega) (by omega), tdiv_pos x n hx0, wrap64_id (x / n) (by omega) (by omega), tmod_pos _ 2 hq.1, tdiv_pos n 2 (by omega), wrap64_id (n / 2) (by omega) (by omega)]
        exact Ev.of (funext fun k => (hg k).symm) hr
      refine Ev.step (by intro k; rw [posthornref01_digits.l0]) ?_
      refine Ev.pos (by omega) ?_
      have hfin : Ev (fun k => posthornref01_digits.l1 k l (acc ++ dig8 x) (i : Int) 0) ((acc ++ dig8 x) ++ digs (l.drop (i + 1))) := by
        refine Ev.step (by intro k; rw [posthornref01_digits.l1]) ?_
        refine Ev.neg (by omega) ?_
        rw [wrap64_id _ (by omega) (by omega)]
        exact hn
      refine H 128 _ _ _ (by decide) (by omega) (fun k => rfl) ?_ (by decide)
      refine H 64 _ _ _ (by decide) (by simp; omega) (fun k => rfl) ?_ (by decide)
      refine H 32 _ _ _ (by decide) (by simp; omega) (fun k => rfl) ?_ (by decide)
      refine H 16 _ _ _ (by decide) (by simp; omega) (fun k => rfl) ?_ (by decide)
      refine H 8 _ _ _ (by decide) (by simp; omega) (fun k => rfl) ?_ (by decide)
      refine H 4 _ _ _ (by decide) (by simp; omega) (fun k => rfl) ?_ (by decide)
      refine H 2 _ _ _ (by decide) (by simp; omega) (fun k => rfl) ?_ (by decide)
      refine H 1 _ _ _ (by decide) (by simp; omega) (fun k => rfl) ?_ (by decide)
      refine Ev.of (funext fun k => ?_) hfin
      simp [dig8]
    · refine Ev.step (by intro k; rw [posthornref01_digits.l0]) ?_
      refine Ev.neg (by omega) ?_
      rw [List.drop_eq_nil_of_le (by omega)]
      simpa [digs] using Ev.done acc
open PBitsEncodes in
theorem digits_ev (l : List Int) (hl : l.length ≤ 1048576) (hb : Bytes l) : Ev (fun k => posthornref01_digits.f k l) (digs l) := by
  have h := digits_loop l hl hb l.length 0 [] (by omega) (by omega) rfl
  rw [List.drop_zero, List.nil_append] at h
  exact h

/-- Six digits' number; a digit that is not there is 0. -/
def v6 (d : List Int) : Int := 2 * (2 * (2 * (2 * (2 * (2 * 0 + rd d 0) + rd d 1) + rd d 2) + rd d 3) + rd d 4) + rd d 5
def Bin (d : List Int) : Prop := ∀ i : Nat, 0 ≤ rd d (i : Int) ∧ rd d (i : Int) ≤ 1
theorem Bin.drop {d : List Int} (h : Bin d) (n : Nat) : Bin (d.drop n) := fun i => by rw [rd_drop]; exact h _
theorem rd_ge (l : List Int) (i : Nat) (h : l.length ≤ i) : rd l (i : Int) = 0 := by
  simp [rd, List.getElem?_eq_none h]
theorem digs_bin (l : List Int) : Bin (digs l) := by
  have h : ∀ x ∈ digs l, 0 ≤ x ∧ x ≤ 1 := by
    intro x hx
    simp only [digs, List.mem_flatMap, dig8, List.mem_cons, List.not_mem_nil, or_false] at hx
    obtain ⟨a, _, hx⟩ := hx
    omega
  intro i
  by_cases hi : i < (digs l).length
  · rw [rd_lt _ i hi]; exact h _ (List.getElem_mem hi)
  · rw [rd_ge _ i (by omega)]; omega
theorem v6_range (d : List Int) (h : Bin d) : 0 ≤ v6 d ∧ v6 d ≤ 63 := by
  have h0 := h 0; have h1 := h 1; have h2 := h 2; have h3 := h 3; have h4 := h 4; have h5 := h 5
  simp only [v6]
  simp only [Int.natCast_zero, Int.natCast_one] at h0 h1
  norm_cast at *
  omega
/-- A line's end ahead of a sign. -/
def nlOf (m line : Int) : List Int := if 0 < m ∧ line = m then [13, 10] else []
def lineOf (m line : Int) : Int := if 0 < m ∧ line = m then 0 else line
open PBitsEncodes in
theorem enc_l1 (m e : Int) (d acc : List Int) (line v : Int) (j : Nat) (r : ByteArray × Int) (hb : Bin d) (hj : j < 6) (hv0 : 0 ≤ v) (hv1 : v ≤ 63)
    (h : Ev (fun k => posthornref01_Encode.l1 k m e d acc line (2 * v + rd d (j : Int)) ((j + 1 : Nat) : Int)) r) : Ev (fun k => posthornref01_Encode.l1 k m e d acc line v (j : Int)) r := by
  have hd := hb j
  refine Ev.step (by intro k; rw [posthornref01_Encode.l1]) ?_
  refine Ev.pos (by omega) ?_
  by_cases hl : (j : Int) < d.length
  · refine Ev.pos hl ?_
    refine Ev.pos (by omega) ?_
    rw [wrap64_id (2 * v) (by omega) (by omega), wrap64_id _ (by omega) (by omega), wrap64_id ((j : Int) + 1) (by omega) (by omega)]
    exact h
  · refine Ev.neg hl ?_
    rw [rd_ge d j (by omega), Int.add_zero] at h
    rw [wrap64_id (2 * v) (by omega) (by omega), wrap64_id ((j : Int) + 1) (by omega) (by omega)]
    exact h
open PBitsEncodes in
theorem enc_sign (m e : Int) (d acc : List Int) (line : Int) (r : ByteArray × Int) (hb : Bin d) (hd : 0 < d.length) (hl0 : 0 ≤ line) (hl1 : line ≤ 10000000) (ha : acc.length ≤ 100000000)
    (h : Ev (fun k => posthornref01_Encode.l0 k m e (d.drop 6) (acc ++ nlOf m line ++ [sgn (v6 d)]) (lineOf m line + 1)) r) : Ev (fun k => posthornref01_Encode.l0 k m e d acc line) r := by
  have hr := v6_range d hb
  refine Ev.step (by intro k; rw [posthornref01_Encode.l0]) ?_
  refine Ev.pos (by omega) ?_
  refine Ev.step (by intro k; rw [posthornref01_Encode.j1]) ?_
  refine Ev.pos rfl ?_
  have hln : 0 ≤ lineOf m line ∧ lineOf m line ≤ line := by unfold lineOf; split <;> omega
  have hnl : (nlOf m line).length ≤ 2 := by unfold nlOf; split <;> simp
  have H : Ev (fun k => posthornref01_Encode.j3 k m e d (acc ++ nlOf m line) (lineOf m line)) r := by
    generalize lineOf m line = ln at *
    generalize hac : acc ++ nlOf m line = ac at *
    have hacl : ac.length ≤ 100000002 := by rw [← hac, List.length_append]; omega
    refine Ev.step (by intro k; rw [posthornref01_Encode.j3]) ?_
    refine Ev.neg (by omega) ?_
    refine enc_l1 m e d ac ln 0 0 r hb (by omega) (by omega) (by omega) ?_
    have hb' := hb
    have h0 := hb 0; have h1 := hb 1; have h2 := hb 2; have h3 := hb 3; have h4 := hb 4; have h5 := hb 5
    refine enc_l1 m e d ac ln _ 1 r hb (by omega) (by omega) (by omega) ?_
    refine enc_l1 m e d ac ln _ 2 r hb (by omega) (by omega) (by omega) ?_
    refine enc_l1 m e d ac ln _ 3 r hb (by omega) (by omega) (by omega) ?_
    refine enc_l1 m e d ac ln _ 4 r hb (by omega) (by omega) (by omega) ?_
    refine enc_l1 m e d ac ln _ 5 r hb (by omega) (by omega) (by omega) ?_
    have hs := esign_ev (v6 d) hr.1 hr.2
    have e6 : 2 * (2 * (2 * (2 * (2 * (2 * 0 + rd d ((0 : Nat) : Int)) + rd d ((1 : Nat) : Int)) + rd d ((2 : Nat) : Int)) + rd d ((3 : Nat) : Int)) + rd d ((4 : Nat) : Int)) + rd d ((5 : Nat) : Int) = v6 d := rfl
    rw [e6]
    refine Ev.step (by intro k; rw [posthornref01_Encode.l1]) ?_
    refine Ev.neg (by decide) ?_
    by_cases h6 : (d.length : Int) > 6
    · refine Ev.pos h6 ?_
      refine Ev.pos (by omega) ?_
      refine Ev.bind hs ?_
      refine Ev.pos (by omega) ?_
      rw [wrap64_id (ln + 1) (by omega) (by omega)]
      exact h
    · refine Ev.neg h6 ?_
      refine Ev.bind hs ?_
      refine Ev.pos (by omega) ?_
      rw [wrap64_id (ln + 1) (by omega) (by omega)]
      rw [List.drop_eq_nil_of_le (show d.length ≤ 6 by omega)] at h
      exact h
  by_cases hm : m > 0
  · refine Ev.pos hm ?_
    refine Ev.step (by intro k; rw [posthornref01_Encode.j2]) ?_
    by_cases hlm : line = m
    · refine Ev.pos (by rw [beq_iff_eq]; exact hlm) ?_
      refine Ev.bind (Ev.done _) ?_
      refine Ev.pos (by simp; omega) ?_
      rw [nlOf, lineOf, if_pos ⟨by omega, hlm⟩, if_pos ⟨by omega, hlm⟩] at H
      exact H
    · refine Ev.neg (by rw [beq_iff_eq]; exact hlm) ?_
      rw [nlOf, lineOf, if_neg (fun h => hlm h.2), if_neg (fun h => hlm h.2), List.append_nil] at H
      exact H
  · refine Ev.neg hm ?_
    refine Ev.step (by intro k; rw [posthornref01_Encode.j2]) ?_
    refine Ev.neg (by decide) ?_
    rw [nlOf, lineOf, if_neg (fun h => hm h.1), if_neg (fun h => hm h.1), List.append_nil] at H
    exact H
end Go.Proofs.Ytijccfblenmfcaa
