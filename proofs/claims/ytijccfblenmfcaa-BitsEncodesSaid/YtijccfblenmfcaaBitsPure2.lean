/- Plain laws of bits: what is read is written in one way; lines; joins; lengths. -/
import Derived.Test.YtijccfblenmfcaaBitsPure
namespace Go.Proofs.Ytijccfblenmfcaa
open Go.RowKit Go.Proofs.YtijccfblenmfcaaW.PrintWords

theorem fin_lt (n : Int) (t : List (Int × Int)) (c i v last : Int) (k : Nat) (out x : List Int) (hc0 : 0 ≤ c) (hc1 : c ≤ 255) (hk : k % 4 < 2) (h : decT n ((c, i) :: t) k v 0 last out = (x, 0, 0)) :
    c ≠ 61 ∧ sgn (valV c) = c ∧ 0 ≤ valV c ∧ valV c ≤ 63 ∧ decT n t (k + 1) (v * 64 + valV c) 0 i out = (x, 0, 0) := by
  rw [decT] at h
  by_cases h1 : valV c = -1 ∧ c ≠ 61
  · rw [if_pos h1] at h; simp at h
  · rw [if_neg h1] at h
    by_cases h2 : (c = 61 ∧ k % 4 < 2) ∨ (c ≠ 61 ∧ 0 < 0)
    · rw [if_pos h2] at h; simp at h
    · have h61 : c ≠ 61 := fun h => h2 (.inl ⟨h, hk⟩)
      rw [if_neg h2, if_neg (by omega)] at h
      simp only [if_neg h61] at h
      rcases val_cases c hc0 hc1 with h3 | ⟨h3, h4, h5⟩
      · exact absurd ⟨h3, h61⟩ h1
      · exact ⟨h61, h5, h3, h4, h⟩
theorem fin_2 (n : Int) (t : List (Int × Int)) (c i v last : Int) (k : Nat) (out x : List Int) (hc0 : 0 ≤ c) (hc1 : c ≤ 255) (hk : k % 4 = 2) (h : decT n ((c, i) :: t) k v 0 last out = (x, 0, 0)) :
    (c = 61 ∧ decT n t (k + 1) (v * 64) 1 last out = (x, 0, 0)) ∨ (c ≠ 61 ∧ sgn (valV c) = c ∧ 0 ≤ valV c ∧ valV c ≤ 63 ∧ decT n t (k + 1) (v * 64 + valV c) 0 i out = (x, 0, 0)) := by
  by_cases h61 : c = 61
  · subst h61
    rw [decT_pad n t i v last k out hk] at h
    exact .inl ⟨rfl, h⟩
  · right
    rw [decT] at h
    by_cases h1 : valV c = -1 ∧ c ≠ 61
    · rw [if_pos h1] at h; simp at h
    · rw [if_neg h1, if_neg (by omega), if_neg (by omega)] at h
      simp only [if_neg h61] at h
      rcases val_cases c hc0 hc1 with h3 | ⟨h3, h4, h5⟩
      · exact absurd ⟨h3, h61⟩ h1
      · exact ⟨h61, h5, h3, h4, h⟩
theorem fin_3 (n : Int) (t : List (Int × Int)) (c i v last : Int) (k : Nat) (out x : List Int) (hc0 : 0 ≤ c) (hc1 : c ≤ 255) (hk : k % 4 = 3) (h : decT n ((c, i) :: t) k v 0 last out = (x, 0, 0)) :
    (c = 61 ∧ v * 64 % 256 = 0 ∧ decT n t (k + 1) 0 1 last (out ++ [v * 64 / 65536, v * 64 / 256 % 256]) = (x, 0, 0)) ∨ (c ≠ 61 ∧ sgn (valV c) = c ∧ 0 ≤ valV c ∧ valV c ≤ 63 ∧ decT n t (k + 1) 0 0 i (out ++ [(v * 64 + valV c) / 65536, (v * 64 + valV c) / 256 % 256, (v * 64 + valV c) % 256]) = (x, 0, 0)) := by
  by_cases h61 : c = 61
  · subst h61
    rw [decT_pad1 n t i v last k out hk] at h
    by_cases h0 : v * 64 % 256 ≠ 0
    · rw [if_pos h0] at h; simp at h
    · rw [if_neg h0] at h
      exact .inl ⟨rfl, by omega, h⟩
  · right
    rcases val_cases c hc0 hc1 with h3 | ⟨h3, h4, h5⟩
    · rw [decT, if_pos ⟨h3, h61⟩] at h; simp at h
    · rw [decT_sign4 n t c i v last k out (valV c) h61 rfl h3 (by omega)] at h
      exact ⟨h61, h5, h3, h4, h⟩
theorem fin_pad (n : Int) (t : List (Int × Int)) (c i v last : Int) (k : Nat) (out x : List Int) (hk : k % 4 = 3) (h : decT n ((c, i) :: t) k v 1 last out = (x, 0, 0)) :
    c = 61 ∧ v * 64 / 256 % 256 = 0 ∧ decT n t (k + 1) 0 2 last (out ++ [v * 64 / 65536]) = (x, 0, 0) := by
  by_cases h61 : c = 61
  · subst h61
    rw [decT_pad2 n t i v last k out hk] at h
    by_cases h0 : v * 64 / 256 % 256 ≠ 0
    · rw [if_pos h0] at h; simp at h
    · rw [if_neg h0] at h
      exact ⟨rfl, by omega, h⟩
  · rw [decT] at h
    by_cases h1 : valV c = -1 ∧ c ≠ 61
    · rw [if_pos h1] at h; simp at h
    · rw [if_neg h1, if_pos (.inr ⟨h61, by omega⟩)] at h; simp at h
theorem fin_end (n : Int) (T : List (Int × Int)) (v last : Int) (k pads : Nat) (out x : List Int) (hk : k % 4 = 0) (hp : 0 < pads) (h : decT n T k v pads last out = (x, 0, 0)) : T = [] ∧ x = out := by
  rcases T with _ | ⟨⟨c, i⟩, t⟩
  · rw [decT, if_pos hk] at h
    exact ⟨rfl, (congrArg Prod.fst h).symm⟩
  · rw [decT] at h
    by_cases h1 : valV c = -1 ∧ c ≠ 61
    · rw [if_pos h1] at h; simp at h
    · rw [if_neg h1, if_pos (by omega)] at h; simp at h
theorem fin_none (n : Int) (v last : Int) (k pads : Nat) (out x : List Int) (hk : k % 4 ≠ 0) (h : decT n [] k v pads last out = (x, 0, 0)) : False := by
  rw [decT, if_neg hk] at h; simp at h
theorem encL_0 (f : Nat) (l : List Int) (line : Int) (h : l.length ≠ 0) : encL 0 (f + 1) l line = quad (min l.length 3) (v3 l) ++ encL 0 f (l.drop 3) (line + 4) := by
  rw [encL_cons 0 f l line h, nlOf, lineOf, if_neg (by omega), if_neg (by omega), List.nil_append]
theorem encL_fuel (f : Nat) : ∀ (g : Nat) (l : List Int) (line line2 : Int), l.length ≤ f → l.length ≤ g → encL 0 f l line = encL 0 g l line2 := by
  induction f with
  | zero => intro g l line line2 hf hg; rw [List.eq_nil_of_length_eq_zero (show l.length = 0 by omega), encL_nil, encL_nil]
  | succ f ih =>
    intro g l line line2 hf hg
    by_cases h : l.length = 0
    · rw [List.eq_nil_of_length_eq_zero h, encL_nil, encL_nil]
    · obtain ⟨g, rfl⟩ : ∃ g', g = g' + 1 := ⟨g - 1, by omega⟩
      rw [encL_0 f l line h, encL_0 g l line2 h, ih g (l.drop 3) _ (line2 + 4) (by rw [List.length_drop]; omega) (by rw [List.length_drop]; omega)]
set_option maxHeartbeats 2000000 in
theorem once_ok (n : Int) (f : Nat) : ∀ (T : List (Int × Int)) (k : Nat) (last : Int) (out x : List Int), T.length ≤ f → (∀ p ∈ T, 0 ≤ p.1 ∧ p.1 ≤ 255) → k % 4 = 0 → decT n T k 0 0 last out = (x, 0, 0) →
    ∃ l, x = out ++ l ∧ Bytes l ∧ l.length ≤ T.length ∧ encL 0 l.length l 0 = T.map Prod.fst := by
  induction f with
  | zero =>
    intro T k last out x hf hby hk h
    obtain rfl : T = [] := List.eq_nil_of_length_eq_zero (by omega)
    rw [decT, if_pos hk] at h
    exact ⟨[], by rw [List.append_nil]; exact (congrArg Prod.fst h).symm, fun x hx => (by cases hx), Nat.le_refl _, rfl⟩
  | succ f ih =>
    intro T k last out x hf hby hk h
    rcases T with _ | ⟨⟨c0, i0⟩, _ | ⟨⟨c1, i1⟩, _ | ⟨⟨c2, i2⟩, _ | ⟨⟨c3, i3⟩, t⟩⟩⟩⟩
    · rw [decT, if_pos hk] at h
      exact ⟨[], by rw [List.append_nil]; exact (congrArg Prod.fst h).symm, fun x hx => (by cases hx), Nat.le_refl _, rfl⟩
    · have b0 := hby (c0, i0) (by simp)
      obtain ⟨_, _, _, _, h⟩ := fin_lt n _ c0 i0 0 last k out x b0.1 b0.2 (by omega) h
      exact (fin_none n _ _ _ _ _ _ (by omega) h).elim
    · have b0 := hby (c0, i0) (by simp)
      have b1 := hby (c1, i1) (by simp)
      obtain ⟨_, _, _, _, h⟩ := fin_lt n _ c0 i0 0 last k out x b0.1 b0.2 (by omega) h
      obtain ⟨_, _, _, _, h⟩ := fin_lt n _ c1 i1 _ _ (k + 1) out x b1.1 b1.2 (by omega) h
      exact (fin_none n _ _ _ _ _ _ (by omega) h).elim
    · have b0 := hby (c0, i0) (by simp)
      have b1 := hby (c1, i1) (by simp)
      have b2 := hby (c2, i2) (by simp)
      obtain ⟨_, _, _, _, h⟩ := fin_lt n _ c0 i0 0 last k out x b0.1 b0.2 (by omega) h
      obtain ⟨_, _, _, _, h⟩ := fin_lt n _ c1 i1 _ _ (k + 1) out x b1.1 b1.2 (by omega) h
      rcases fin_2 n _ c2 i2 _ _ (k + 1 + 1) out x b2.1 b2.2 (by omega) h with ⟨_, h⟩ | ⟨_, _, _, _, h⟩
      · exact (fin_none n _ _ _ _ _ _ (by omega) h).elim
      · exact (fin_none n _ _ _ _ _ _ (by omega) h).elim
    · have b0 := hby (c0, i0) (by simp)
      have b1 := hby (c1, i1) (by simp)
      have b2 := hby (c2, i2) (by simp)
      have b3 := hby (c3, i3) (by simp)
      obtain ⟨_, s0, u0, w0, h⟩ := fin_lt n _ c0 i0 0 last k out x b0.1 b0.2 (by omega) h
      obtain ⟨_, s1, u1, w1, h⟩ := fin_lt n _ c1 i1 _ _ (k + 1) out x b1.1 b1.2 (by omega) h
      generalize valV c0 = d0 at *
      generalize valV c1 = d1 at *
      rcases fin_2 n _ c2 i2 _ _ (k + 1 + 1) out x b2.1 b2.2 (by omega) h with ⟨e2, h⟩ | ⟨_, s2, u2, w2, h⟩
      · obtain ⟨e3, hz, h⟩ := fin_pad n t c3 i3 _ _ _ out x (by omega) h
        obtain ⟨rfl, rfl⟩ := fin_end n t _ _ _ _ _ x (by omega) (by omega) h
        refine ⟨[((0 * 64 + d0) * 64 + d1) * 64 * 64 / 65536], rfl, by intro y hy; simp at hy; omega, by simp, ?_⟩
        rw [show List.length [((0 * 64 + d0) * 64 + d1) * 64 * 64 / 65536] = 0 + 1 from rfl, encL_0 _ _ _ (by simp), show List.drop 3 [((0 * 64 + d0) * 64 + d1) * 64 * 64 / 65536] = [] from rfl, encL_nil, List.append_nil]
        rw [show min (List.length [((0 * 64 + d0) * 64 + d1) * 64 * 64 / 65536]) 3 = 1 from rfl, quad_eq 1 _ (by omega), if_neg (by omega), if_neg (by omega)]
        simp only [List.map_cons, List.map_nil, List.cons.injEq, and_true]
        have e : v3 [((0 * 64 + d0) * 64 + d1) * 64 * 64 / 65536] = ((0 * 64 + d0) * 64 + d1) * 64 * 64 := by simp [v3, rd]; omega
        rw [e]
        refine ⟨?_, ?_, e2.symm, e3.symm⟩
        · rw [← s0]; congr 1; omega
        · rw [← s1]; congr 1; omega
      · generalize valV c2 = d2 at *
        rcases fin_3 n _ c3 i3 _ _ (k + 1 + 1 + 1) out x b3.1 b3.2 (by omega) h with ⟨e3, hz, h⟩ | ⟨_, s3, u3, w3, h⟩
        · obtain ⟨rfl, rfl⟩ := fin_end n t _ _ _ _ _ x (by omega) (by omega) h
          obtain ⟨y, hy⟩ : ∃ y, y = (((0 * 64 + d0) * 64 + d1) * 64 + d2) * 64 := ⟨_, rfl⟩
          rw [← hy] at hz
          rw [← hy]
          refine ⟨[y / 65536, y / 256 % 256], rfl, by intro z hz; simp at hz; omega, by simp, ?_⟩
          rw [show List.length [y / 65536, y / 256 % 256] = 1 + 1 from rfl, encL_0 _ _ _ (by simp), show List.drop 3 [y / 65536, y / 256 % 256] = [] from rfl, encL_nil, List.append_nil]
          rw [show min (List.length [y / 65536, y / 256 % 256]) 3 = 2 from rfl, quad_eq 2 _ (by omega), if_pos (by omega), if_neg (by omega)]
          simp only [List.map_cons, List.map_nil, List.cons.injEq, and_true]
          have e : v3 [y / 65536, y / 256 % 256] = y := by simp [v3, rd]; omega
          rw [e]
          refine ⟨?_, ?_, ?_, e3.symm⟩
          · rw [← s0]; congr 1; omega
          · rw [← s1]; congr 1; omega
          · rw [← s2]; congr 1; omega
        · generalize valV c3 = d3 at *
          obtain ⟨y, hy⟩ : ∃ y, y = (((0 * 64 + d0) * 64 + d1) * 64 + d2) * 64 + d3 := ⟨_, rfl⟩
          rw [← hy] at h
          simp only [List.length_cons] at hf
          obtain ⟨l, hx, hbl, hll, he⟩ := ih t _ _ _ x (by omega) (fun p hp => hby p (by simp [hp])) (by omega) h
          refine ⟨y / 65536 :: y / 256 % 256 :: y % 256 :: l, by rw [hx]; simp, ?_, by simp; omega, ?_⟩
          · intro z hz
            simp only [List.mem_cons] at hz
            rcases hz with rfl | rfl | rfl | hz
            · omega
            · omega
            · omega
            · exact hbl z hz
          · rw [show List.length (y / 65536 :: y / 256 % 256 :: y % 256 :: l) = (l.length + 2) + 1 from rfl, encL_0 _ _ _ (by simp), show List.drop 3 (y / 65536 :: y / 256 % 256 :: y % 256 :: l) = l from rfl]
            rw [encL_fuel _ l.length l _ 0 (by omega) (Nat.le_refl _), he]
            rw [show min (List.length (y / 65536 :: y / 256 % 256 :: y % 256 :: l)) 3 = 3 by simp only [List.length_cons]; omega, quad_eq 3 _ (by omega), if_pos (by omega), if_pos (by omega)]
            have e : v3 (y / 65536 :: y / 256 % 256 :: y % 256 :: l) = y := by simp [v3, rd]; omega
            rw [e]
            simp only [List.map_cons, List.cons_append, List.nil_append, List.cons.injEq, and_true]
            refine ⟨?_, ?_, ?_, ?_⟩
            · rw [← s0]; congr 1; omega
            · rw [← s1]; congr 1; omega
            · rw [← s2]; congr 1; omega
            · rw [← s3]; congr 1; omega
theorem once_bad (n : Int) (hn : 0 ≤ n) (T : List (Int × Int)) : ∀ (k : Nat) (v : Int) (pads : Nat) (last : Int) (out : List Int), (∀ p ∈ T, 0 ≤ p.2 ∧ p.2 ≤ n) → 0 ≤ last → last ≤ n → (decT n T k v pads last out).2.2 ≠ 0 →
    (decT n T k v pads last out).1 = [] ∧ 0 ≤ (decT n T k v pads last out).2.1 ∧ (decT n T k v pads last out).2.1 ≤ n := by
  induction T with
  | nil =>
    intro k v pads last out _ h0 h1 h
    rw [decT] at *
    by_cases hk : k % 4 = 0
    · rw [if_pos hk] at h; exact absurd rfl h
    · rw [if_neg hk]; exact ⟨rfl, hn, Int.le_refl _⟩
  | cons p t ih =>
    obtain ⟨c, i⟩ := p
    intro k v pads last out hp h0 h1 h
    have hi := hp (c, i) (by simp)
    have hl : 0 ≤ (if c = 61 then last else i) ∧ (if c = 61 then last else i) ≤ n := by split <;> omega
    have hp2 : ∀ p ∈ t, 0 ≤ p.2 ∧ p.2 ≤ n := fun p hq => hp p (by simp [hq])
    revert h
    rw [decT]
    generalize (if c = 61 then last else i) = L at *
    generalize (if c = 61 then 0 else valV c) = D at *
    generalize (if c = 61 then pads + 1 else pads) = P at *
    split
    · intro _; exact ⟨rfl, hi.1, hi.2⟩
    · split
      · intro _; exact ⟨rfl, hi.1, hi.2⟩
      · split
        · split
          · intro _; exact ⟨rfl, hl.1, hl.2⟩
          · intro h; exact ih _ _ _ _ _ hp2 hl.1 hl.2 h
        · intro h; exact ih _ _ _ _ _ hp2 hl.1 hl.2 h
theorem toks_pos : ∀ (l : List Int) (i : Int), ∀ p ∈ toks l i, i ≤ p.2 ∧ p.2 < i + l.length
  | [], _, p, hp => by simp [toks] at hp
  | [x], i, p, hp => by simp [toks] at hp; subst hp; simp only [List.length_cons, List.length_nil]; omega
  | x :: y :: t, i, p, hp => by
    rw [toks] at hp
    split at hp
    · have := toks_pos t _ p hp; simp only [List.length_cons] at *; omega
    · rcases List.mem_cons.1 hp with rfl | hp
      · simp only [List.length_cons]; omega
      · have := toks_pos (y :: t) _ p hp; simp only [List.length_cons] at *; omega
theorem once_law (xs : List Int) (hb : Bytes xs) (hl : xs.length ≤ 2097152) (h : (decV xs).2.2 = 0) : (decV xs).2.1 = 0 ∧ Bytes (decV xs).1 ∧ (decV xs).1.length ≤ xs.length ∧ encL 0 (decV xs).1.length (decV xs).1 0 = (toks xs 0).map Prod.fst := by
  have hv : decV xs = decT xs.length (toks xs 0) 0 0 0 0 [] := by rw [decV, if_neg (by omega)]
  have h0 : (decV xs).2.1 = 0 := by
    rw [hv] at h ⊢
    generalize toks xs 0 = T at *
    suffices H : ∀ (T : List (Int × Int)) (k : Nat) (v : Int) (pads : Nat) (last : Int) (out : List Int), (decT xs.length T k v pads last out).2.2 = 0 → (decT xs.length T k v pads last out).2.1 = 0 from H _ _ _ _ _ _ h
    intro T
    induction T with
    | nil =>
      intro k v pads last out h
      rw [decT] at *
      by_cases hk : k % 4 = 0
      · rw [if_pos hk]
      · rw [if_neg hk] at h; simp at h
    | cons p t ih =>
      obtain ⟨c, i⟩ := p
      intro k v pads last out
      rw [decT]
      generalize (if c = 61 then last else i) = L at *
      generalize (if c = 61 then 0 else valV c) = D at *
      generalize (if c = 61 then pads + 1 else pads) = P at *
      split
      · intro h; simp at h
      · split
        · intro h; simp at h
        · split
          · split
            · intro h; simp at h
            · exact ih _ _ _ _ _
          · exact ih _ _ _ _ _
  have e : decT xs.length (toks xs 0) 0 0 0 0 [] = ((decV xs).1, 0, 0) := by
    rw [← hv]
    generalize decV xs = dv at *
    obtain ⟨a, b, c⟩ := dv
    simp only at h0 h
    rw [h0, h]
  obtain ⟨l, hx, hbl, hll, he⟩ := once_ok _ _ (toks xs 0) 0 0 [] _ (Nat.le_refl _) (toks_bytes xs 0 hb) rfl e
  rw [List.nil_append] at hx
  have := toks_len xs 0
  rw [hx]
  exact ⟨h0, hbl, by omega, he⟩
end Go.Proofs.Ytijccfblenmfcaa
