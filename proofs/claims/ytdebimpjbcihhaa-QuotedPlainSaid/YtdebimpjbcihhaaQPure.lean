/- quoted: Encode and Decode over lists; there and back. -/
import Derived.Test.YtdebimpjbcihhaaQRef4
namespace Go.Proofs.Ytdebimpjbcihhaa
open Go.RowKit Go.Proofs.YtdebimpjbcihhaaW.PrintWords

def pr : List Int → Bool
  | x :: y :: _ => decide (x = 13 ∧ y = 10)
  | _ => false
def ends (l : List Int) : Bool := l.isEmpty || pr l
def sg (x : Int) (t : List Int) : List Int := if printable x ∨ ((x = 32 ∨ x = 9) ∧ ends t = false) then [x] else 61 :: digB x
def encP (txt : Bool) : Nat → List Int → Int → List Int
  | 0, _, _ => []
  | _ + 1, [], _ => []
  | f + 1, x :: t, line => if (txt && pr (x :: t)) = true then [13, 10] ++ encP txt f (t.drop 1) 0
    else (if 75 < line + ((sg x t).length : Int) then [61, 13, 10] else []) ++ sg x t ++ encP txt f t ((if 75 < line + ((sg x t).length : Int) then 0 else line) + ((sg x t).length : Int))
def tr (l : List Int) : Bool := ends (l.dropWhile isBl)
def decP : Nat → List Int → Int → List Int → List Int × Int × Int
  | 0, _, _, out => (out, 0, 0)
  | _ + 1, [], _, out => (out, 0, 0)
  | f + 1, x :: t, i, out => if pr (x :: t) = true then decP f (t.drop 1) (i + 2) (out ++ [13, 10])
    else if x = 61 then
      (if pr t = true then decP f (t.drop 2) (i + 3) out
       else if t.length < 2 ∨ hv (rd t 0) < 0 ∨ hv (rd t 1) < 0 then ([], i, 3)
       else decP f (t.drop 2) (i + 3) (out ++ [16 * hv (rd t 0) + hv (rd t 1)]))
    else if x ≠ 9 ∧ (x < 32 ∨ 126 < x) then ([], i, 10)
    else if tr (x :: t) = true then decP f t (i + 1) out
    else decP f t (i + 1) (out ++ [x])
theorem drop_cons (xs : List Int) (i : Nat) (h : i < xs.length) : xs.drop i = rd xs (i : Int) :: xs.drop (i + 1) := by
  rw [rd_lt xs i h, List.drop_eq_getElem_cons h]
theorem prs_drop (xs : List Int) (i : Nat) : prs xs (i : Int) = pr (xs.drop i) := by
  unfold prs
  by_cases h : i + 1 < xs.length
  · rw [drop_cons xs i (by omega), drop_cons xs (i + 1) h, pr]
    apply decide_eq_decide.mpr
    rw [show ((i : Int) + 1) = ((i + 1 : Nat) : Int) by omega]
    exact ⟨fun h2 => ⟨h2.1, h2.2.2⟩, fun h2 => ⟨h2.1, by omega, h2.2⟩⟩
  · rw [decide_eq_false (by omega)]
    by_cases h2 : i < xs.length
    · rw [drop_cons xs i h2, List.drop_eq_nil_of_le (by omega)]; rfl
    · rw [List.drop_eq_nil_of_le (by omega)]; rfl
theorem ends_drop (xs : List Int) (i : Nat) (h : i ≤ xs.length) : endsV xs (i : Int) = ends (xs.drop i) := by
  unfold endsV ends
  rw [prs_drop]
  congr 1
  by_cases h2 : i = xs.length
  · subst h2; rw [List.drop_length]; simp
  · rw [drop_cons xs i (by omega), decide_eq_false (by omega)]; rfl
theorem enc_drop (txt : Bool) (xs : List Int) (f : Nat) : ∀ (i : Nat) (line : Int), encQ txt xs f i line = encP txt f (xs.drop i) line := by
  induction f with
  | zero => intro i line; rfl
  | succ f ih =>
    intro i line
    by_cases h : xs.length ≤ i
    · rw [encQ, if_pos h, List.drop_eq_nil_of_le h, encP]
    · have hi : i < xs.length := by omega
      have hs : sgnB xs (i : Int) = sg (rd xs (i : Int)) (xs.drop (i + 1)) := by
        unfold sgnB sg
        rw [show ((i : Int) + 1) = ((i + 1 : Nat) : Int) by omega, ends_drop xs (i + 1) (by omega)]
      rw [encQ, if_neg h, prs_drop, hs, ih, ih, drop_cons xs i hi, encP, List.drop_drop]
theorem skp_drop (xs : List Int) (f : Nat) : ∀ i, xs.length - i ≤ f → xs.drop (skp xs f i) = (xs.drop i).dropWhile isBl := by
  induction f with
  | zero => intro i h; rw [skp, List.drop_eq_nil_of_le (by omega)]; rfl
  | succ f ih =>
    intro i h
    rw [skp]
    by_cases hi : i < xs.length
    · by_cases hb : isBl (rd xs (i : Int)) = true
      · rw [if_pos ⟨hi, hb⟩, ih (i + 1) (by omega), drop_cons xs i hi, List.dropWhile_cons_of_pos hb]
      · rw [if_neg (fun h2 => hb h2.2), drop_cons xs i hi, List.dropWhile_cons_of_neg hb]
    · rw [if_neg (fun h2 => hi h2.1), List.drop_eq_nil_of_le (by omega)]; rfl
theorem trl_drop (xs : List Int) (i : Nat) (hi : i ≤ xs.length) : trl xs i = tr (xs.drop i) := by
  unfold trl tr
  rw [← skp_drop xs (xs.length - i) i (Nat.le_refl _), prs_drop]
  have h := skp_le xs (xs.length - i) i hi
  generalize skp xs (xs.length - i) i = e at *
  unfold ends
  congr 1
  by_cases h2 : e = xs.length
  · subst h2; rw [List.drop_length]; simp
  · rw [drop_cons xs e (by omega), decide_eq_false h2]; rfl
theorem dec_drop (xs : List Int) (f : Nat) : ∀ (i : Nat) (out : List Int), decQ xs f i out = decP f (xs.drop i) (i : Int) out := by
  induction f with
  | zero => intro i out; rfl
  | succ f ih =>
    intro i out
    by_cases h : xs.length ≤ i
    · rw [decQ, if_pos h, List.drop_eq_nil_of_le h, decP]
    · have hi : i < xs.length := by omega
      rw [decQ, if_neg h, prs_drop, prs_drop, ih, ih, ih, ih, ih, trl_drop xs i (by omega), drop_cons xs i hi, decP, List.drop_drop, List.drop_drop]
      have e0 : rd (xs.drop (i + 1)) 0 = rd xs ((i + 1 : Nat) : Int) := rd_zero_drop xs (i + 1)
      have e1 : rd (xs.drop (i + 1)) 1 = rd xs ((i + 2 : Nat) : Int) := rd_drop xs (i + 1) 1
      have e2 : ((xs.drop (i + 1)).length < 2) ↔ (xs.length ≤ i + 2) := by rw [List.length_drop]; omega
      rw [e0, e1]
      simp only [e2]
      rfl
/-! There and back. -/
theorem hv_hex (n : Int) (h0 : 0 ≤ n) (h1 : n ≤ 15) : hv (hexD n) = n := by
  unfold hexD
  by_cases h : n < 10
  · rw [if_pos h, hv, if_pos (by omega)]; omega
  · rw [if_neg h, hv, if_neg (by omega), if_pos (by omega)]; omega
theorem ends_cons (x : Int) (t : List Int) (h : x ≠ 13) : ends (x :: t) = false := by
  unfold ends
  rcases t with _ | ⟨y, t⟩
  · rfl
  · show (false || decide (x = 13 ∧ y = 10)) = false
    rw [decide_eq_false (fun h2 => h h2.1)]; rfl
theorem pr_cons (x : Int) (t : List Int) (h : x ≠ 13) : pr (x :: t) = false := by
  rcases t with _ | ⟨y, t⟩
  · rfl
  · exact decide_eq_false (fun h2 => h h2.1)
theorem ends_ne (t : List Int) (h : ends t = false) : ∃ x r, t = x :: r ∧ pr t = false := by
  rcases t with _ | ⟨x, r⟩
  · exact absurd h (by decide)
  · exact ⟨x, r, rfl, by simpa [ends] using h⟩
theorem tr_cons (x : Int) (t : List Int) (h : isBl x = false) (h13 : x ≠ 13) : tr (x :: t) = false := by
  unfold tr
  rw [List.dropWhile_cons_of_neg (by rw [h]; decide)]
  exact ends_cons x t h13
theorem tr_blank (x : Int) (t : List Int) (h : isBl x = true) : tr (x :: t) = tr t := by
  unfold tr
  rw [List.dropWhile_cons_of_pos h]
theorem bl_not (x : Int) (h : printable x) : isBl x = false := by
  unfold printable at h
  exact decide_eq_false (by omega)
/-- What is written of a text that does not end there: no line ends there. -/
theorem tr_enc (txt : Bool) (f : Nat) : ∀ (t : List Int) (line : Int), t.length ≤ f → ends t = false → tr (encP txt f t line) = false ∧ ends (encP txt f t line) = false := by
  induction f with
  | zero =>
    intro t line hf he
    obtain ⟨x, r, rfl, _⟩ := ends_ne t he
    simp at hf
  | succ f ih =>
    intro t line hf he
    obtain ⟨x, r, rfl, hp⟩ := ends_ne t he
    rw [encP, hp, Bool.and_false, if_neg (by decide)]
    by_cases hb : 75 < line + ((sg x r).length : Int)
    · rw [if_pos hb, if_pos hb]
      exact ⟨tr_cons 61 _ (by decide) (by decide), ends_cons 61 _ (by decide)⟩
    · rw [if_neg hb, if_neg hb, List.nil_append]
      unfold sg
      by_cases h1 : printable x ∨ ((x = 32 ∨ x = 9) ∧ ends r = false)
      · simp only [if_pos h1]
        have hx13 : x ≠ 13 := by
          rcases h1 with h1 | h1
          · unfold printable at h1; omega
          · omega
        refine ⟨?_, ends_cons x _ hx13⟩
        rcases h1 with h1 | h1
        · exact tr_cons x _ (bl_not x h1) hx13
        · rw [List.cons_append, List.nil_append, tr_blank x _ (decide_eq_true h1.1)]
          exact (ih r _ (by simp at hf; omega) h1.2).1
      · simp only [if_neg h1]
        exact ⟨tr_cons 61 _ (by decide) (by decide), ends_cons 61 _ (by decide)⟩
theorem pr_pair (r : List Int) : pr (13 :: 10 :: r) = true := by simp [pr]
theorem dec_soft (f : Nat) (r : List Int) (i : Int) (out : List Int) : decP (f + 1) (61 :: 13 :: 10 :: r) i out = decP f r (i + 3) out := by
  rw [decP, if_neg (by rw [pr_cons 61 _ (by decide)]; decide), if_pos rfl, if_pos (pr_pair r)]
  rfl
theorem dec_hex (f : Nat) (x : Int) (r : List Int) (i : Int) (out : List Int) (h0 : 0 ≤ x) (h1 : x ≤ 255) : decP (f + 1) (61 :: digB x ++ r) i out = decP f r (i + 3) (out ++ [x]) := by
  have a1 := hexD_range (x / 16) (by omega) (by omega)
  have e1 := hv_hex (x / 16) (by omega) (by omega)
  have e2 := hv_hex (x % 16) (by omega) (by omega)
  rw [digB, List.cons_append, List.cons_append, List.cons_append, List.nil_append, decP, if_neg (by rw [pr_cons 61 _ (by decide)]; decide), if_pos rfl, if_neg (by rw [pr_cons _ _ (by omega)]; decide)]
  rw [show rd (hexD (x / 16) :: hexD (x % 16) :: r) 0 = hexD (x / 16) from rfl, show rd (hexD (x / 16) :: hexD (x % 16) :: r) 1 = hexD (x % 16) from rfl, e1, e2, if_neg (by simp; omega)]
  rw [show 16 * (x / 16) + x % 16 = x by omega]
  rfl
theorem dec_sg (x : Int) (t r : List Int) (f : Nat) (i : Int) (out : List Int) (h0 : 0 ≤ x) (h1 : x ≤ 255) (hr : ends t = false → tr r = false) : ∃ j, decP (f + 1) (sg x t ++ r) i out = decP f r j (out ++ [x]) := by
  unfold sg
  by_cases h : printable x ∨ ((x = 32 ∨ x = 9) ∧ ends t = false)
  · rw [if_pos h, List.cons_append, List.nil_append]
    have hx : x ≠ 13 ∧ x ≠ 61 ∧ ¬ (x ≠ 9 ∧ (x < 32 ∨ 126 < x)) := by
      rcases h with h | h
      · unfold printable at h; omega
      · omega
    have ht : tr (x :: r) = false := by
      rcases h with h | h
      · exact tr_cons x _ (bl_not x h) hx.1
      · rw [tr_blank x _ (decide_eq_true h.1)]; exact hr h.2
    exact ⟨i + 1, by rw [decP, if_neg (by rw [pr_cons x _ hx.1]; decide), if_neg hx.2.1, if_neg hx.2.2, if_neg (by rw [ht]; decide)]⟩
  · rw [if_neg h]; exact ⟨_, dec_hex f x r i out h0 h1⟩
theorem dec_enc (txt : Bool) (f : Nat) : ∀ (t : List Int) (line : Int) (g : Nat) (i : Int) (out : List Int), Bytes t → t.length ≤ f → (encP txt f t line).length ≤ g → decP g (encP txt f t line) i out = (out ++ t, 0, 0) := by
  induction f with
  | zero =>
    intro t line g i out hb hf hg
    obtain rfl : t = [] := List.eq_nil_of_length_eq_zero (by omega)
    cases g <;> simp [encP, decP]
  | succ f ih =>
    intro t line g i out hb hf hg
    rcases t with _ | ⟨x, t⟩
    · cases g <;> simp [encP, decP]
    · have hx := hb x List.mem_cons_self
      have hbt : Bytes t := fun y hy => hb y (List.mem_cons_of_mem _ hy)
      simp only [List.length_cons] at hf
      rw [encP] at hg ⊢
      by_cases hp : (txt && pr (x :: t)) = true
      · rw [if_pos hp] at hg ⊢
        obtain ⟨g, rfl⟩ : ∃ k, g = k + 1 := ⟨g - 1, by simp at hg; omega⟩
        have hpp : pr (x :: t) = true := by simp only [Bool.and_eq_true] at hp; exact hp.2
        rcases t with _ | ⟨y, t⟩
        · cases hpp
        · simp only [pr, decide_eq_true_eq] at hpp
          obtain ⟨rfl, rfl⟩ := hpp
          simp only [List.drop_succ_cons, List.drop_zero, List.cons_append, List.nil_append, List.length_cons] at hg ⊢
          rw [decP, if_pos (pr_pair _), List.drop_succ_cons, List.drop_zero, ih t 0 g _ _ (fun z hz => hbt z (List.mem_cons_of_mem _ hz)) (by simp at hf; omega) (by omega)]
          simp
      · rw [if_neg hp] at hg ⊢
        by_cases hbr : 75 < line + ((sg x t).length : Int)
        · rw [if_pos hbr, if_pos hbr] at hg ⊢
          simp only [List.cons_append, List.nil_append, List.append_assoc, List.length_cons, List.length_append] at hg ⊢
          have hsl : 1 ≤ (sg x t).length := by unfold sg; split <;> simp
          obtain ⟨g, rfl⟩ : ∃ k, g = k + 2 := ⟨g - 2, by omega⟩
          rw [show g + 2 = (g + 1) + 1 by omega, dec_soft]
          obtain ⟨j, hj⟩ := dec_sg x t (encP txt f t (0 + ((sg x t).length : Int))) g (i + 3) out hx.1 hx.2 (fun h => (tr_enc txt f t _ (by omega) h).1)
          rw [hj, ih t _ g j _ hbt (by omega) (by omega)]
          simp
        · rw [if_neg hbr, if_neg hbr] at hg ⊢
          simp only [List.nil_append, List.length_append] at hg ⊢
          have hsl : 1 ≤ (sg x t).length := by unfold sg; split <;> simp
          obtain ⟨g, rfl⟩ : ∃ k, g = k + 1 := ⟨g - 1, by omega⟩
          obtain ⟨j, hj⟩ := dec_sg x t (encP txt f t (line + ((sg x t).length : Int))) g i out hx.1 hx.2 (fun h => (tr_enc txt f t _ (by omega) h).1)
          rw [hj, ih t _ g j _ hbt (by omega) (by omega)]
          simp
theorem dec_back (txt : Bool) (l : List Int) (hb : Bytes l) : decK (encQ txt l l.length 0 0) = (l, 0, 0) := by
  rw [decK, dec_drop, enc_drop, List.drop_zero, List.drop_zero]
  have h := dec_enc txt l.length l 0 (encP txt l.length l 0).length ((0 : Nat) : Int) [] hb (Nat.le_refl _) (Nat.le_refl _)
  simpa using h
theorem encP_len (txt : Bool) (f : Nat) : ∀ (t : List Int) (line : Int), (encP txt f t line).length ≤ 6 * t.length := by
  induction f with
  | zero => intro t line; simp [encP]
  | succ f ih =>
    intro t line
    rcases t with _ | ⟨x, t⟩
    · simp [encP]
    · rw [encP]
      have hsl : (sg x t).length ≤ 3 := by unfold sg; split <;> simp [digB]
      split
      · rename_i hp
        have hpp : pr (x :: t) = true := by simp only [Bool.and_eq_true] at hp; exact hp.2
        rcases t with _ | ⟨y, t⟩
        · cases hpp
        · have := ih ((y :: t).drop 1) 0
          simp at this ⊢
          omega
      · have h1 := ih t ((if 75 < line + ((sg x t).length : Int) then 0 else line) + ((sg x t).length : Int))
        have h2 : (if 75 < line + ((sg x t).length : Int) then [61, 13, 10] else ([] : List Int)).length ≤ 3 := by split <;> simp
        rw [List.length_append, List.length_append, List.length_cons]
        omega
theorem encQ_len (txt : Bool) (l : List Int) : (encQ txt l l.length 0 0).length ≤ 6 * l.length := by
  rw [enc_drop, List.drop_zero]; exact encP_len _ _ _ _
theorem encP_bytes (txt : Bool) (f : Nat) : ∀ (t : List Int) (line : Int), Bytes t → Bytes (encP txt f t line) := by
  induction f with
  | zero => intro t line _ x hx; simp [encP] at hx
  | succ f ih =>
    intro t line hb
    rcases t with _ | ⟨x, t⟩
    · intro x hx; simp [encP] at hx
    · have hx := hb x List.mem_cons_self
      have hbt : Bytes t := fun y hy => hb y (List.mem_cons_of_mem _ hy)
      rw [encP]
      split
      · exact Bytes.append (by intro y hy; simp at hy; omega) (ih _ _ (hbt.drop 1))
      · refine Bytes.append (Bytes.append ?_ ?_) (ih _ _ hbt)
        · split
          · intro y hy; simp at hy; omega
          · intro y hy; cases hy
        · unfold sg
          split
          · intro y hy; simp at hy; omega
          · intro y hy
            have h1 := hexD_range (x / 16) (by omega) (by omega)
            have h2 := hexD_range (x % 16) (by omega) (by omega)
            simp only [digB, List.mem_cons, List.not_mem_nil, or_false] at hy
            omega
theorem encQ_bytes (txt : Bool) (l : List Int) (hb : Bytes l) : Bytes (encQ txt l l.length 0 0) := by
  rw [enc_drop, List.drop_zero]; exact encP_bytes _ _ _ _ hb
/-- What Decode tells of a fault; how long the answer is. -/
theorem decQ_out (xs : List Int) (hb : Bytes xs) (f : Nat) : ∀ (i : Nat) (out : List Int), Bytes out → xs.length - i ≤ f →
    ((decQ xs f i out).2.2 = 0 ∧ (decQ xs f i out).2.1 = 0 ∧ Bytes (decQ xs f i out).1 ∧ (decQ xs f i out).1.length ≤ out.length + (xs.length - i)) ∨
    ((decQ xs f i out).2.2 ≠ 0 ∧ (decQ xs f i out).1 = [] ∧ 0 ≤ (decQ xs f i out).2.1 ∧ (decQ xs f i out).2.1 < xs.length) := by
  induction f with
  | zero => intro i out ho hf; left; exact ⟨rfl, rfl, ho, Nat.le_add_right _ _⟩
  | succ f ih =>
    intro i out ho hf
    rw [decQ]
    by_cases h : xs.length ≤ i
    · rw [if_pos h]; left; exact ⟨rfl, rfl, ho, Nat.le_add_right _ _⟩
    · rw [if_neg h]
      by_cases hp : prs xs i = true
      · rw [if_pos hp]
        have hp2 := hp
        simp only [prs, decide_eq_true_eq] at hp2
        rcases ih (i + 2) (out ++ [13, 10]) (ho.append (by intro y hy; simp at hy; omega)) (by omega) with ⟨a, b, c, d⟩ | h2
        · left; refine ⟨a, b, c, ?_⟩; simp at d; omega
        · exact .inr h2
      · rw [if_neg hp]
        by_cases h61 : rd xs i = 61
        · rw [if_pos h61]
          by_cases hp1 : prs xs ((i + 1 : Nat) : Int) = true
          · rw [if_pos hp1]
            simp only [prs, decide_eq_true_eq] at hp1
            rcases ih (i + 3) out ho (by omega) with ⟨a, b, c, d⟩ | h2
            · left; refine ⟨a, b, c, ?_⟩; omega
            · exact .inr h2
          · rw [if_neg hp1]
            by_cases hc : xs.length ≤ i + 2 ∨ hv (rd xs ((i + 1 : Nat) : Int)) < 0 ∨ hv (rd xs ((i + 2 : Nat) : Int)) < 0
            · rw [if_pos hc]; right; exact ⟨by simp, rfl, by simp only; omega, by simp only; omega⟩
            · rw [if_neg hc]
              have r1 := hv_range (rd xs ((i + 1 : Nat) : Int))
              have r2 := hv_range (rd xs ((i + 2 : Nat) : Int))
              generalize hv (rd xs ((i + 1 : Nat) : Int)) = va at *
              generalize hv (rd xs ((i + 2 : Nat) : Int)) = vb at *
              rcases ih (i + 3) (out ++ [16 * va + vb]) (ho.append (by intro y hy; simp at hy; omega)) (by omega) with ⟨a, b, c, d⟩ | h2
              · left; refine ⟨a, b, c, ?_⟩; simp at d; omega
              · exact .inr h2
        · rw [if_neg h61]
          by_cases hbad : rd xs i ≠ 9 ∧ (rd xs i < 32 ∨ 126 < rd xs i)
          · rw [if_pos hbad]; right; exact ⟨by simp, rfl, by simp only; omega, by simp only; omega⟩
          · rw [if_neg hbad]
            by_cases ht : trl xs i = true
            · rw [if_pos ht]
              rcases ih (i + 1) out ho (by omega) with ⟨a, b, c, d⟩ | h2
              · left; refine ⟨a, b, c, ?_⟩; omega
              · exact .inr h2
            · rw [if_neg ht]
              have hr := hb.rd i
              rcases ih (i + 1) (out ++ [rd xs i]) (ho.append (by intro y hy; simp at hy; omega)) (by omega) with ⟨a, b, c, d⟩ | h2
              · left; refine ⟨a, b, c, ?_⟩; simp at d; omega
              · exact .inr h2
end Go.Proofs.Ytdebimpjbcihhaa
