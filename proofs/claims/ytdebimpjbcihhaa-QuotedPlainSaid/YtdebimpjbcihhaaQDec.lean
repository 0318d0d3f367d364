/- quoted: Decode, as the document tells it; the program's printed function comes to it. -/
import Derived.Test.YtdebimpjbcihhaaQPlain
namespace Go.Proofs.Ytdebimpjbcihhaa
open Go.RowKit Go.Proofs.YtdebimpjbcihhaaW.PrintWords

def isBl (x : Int) : Bool := decide (x = 32 ∨ x = 9)
/-- The first place from i on that is no blank. -/
def skp (xs : List Int) : Nat → Nat → Nat
  | 0, i => i
  | f + 1, i => if i < xs.length ∧ isBl (rd xs i) = true then skp xs f (i + 1) else i
/-- Do only blanks stand from a place on, up to a pair or the end? -/
def trl (xs : List Int) (i : Nat) : Bool := decide (skp xs (xs.length - i) i = xs.length) || prs xs (skp xs (xs.length - i) i)
/-- What Decode tells. -/
def decQ (xs : List Int) : Nat → Nat → List Int → List Int × Int × Int
  | 0, _, out => (out, 0, 0)
  | f + 1, i, out => if xs.length ≤ i then (out, 0, 0)
    else if prs xs i = true then decQ xs f (i + 2) (out ++ [13, 10])
    else if rd xs i = 61 then
      (if prs xs ((i + 1 : Nat) : Int) = true then decQ xs f (i + 3) out
       else if xs.length ≤ i + 2 ∨ hv (rd xs ((i + 1 : Nat) : Int)) < 0 ∨ hv (rd xs ((i + 2 : Nat) : Int)) < 0 then ([], i, 3)
       else decQ xs f (i + 3) (out ++ [16 * hv (rd xs ((i + 1 : Nat) : Int)) + hv (rd xs ((i + 2 : Nat) : Int))]))
    else if rd xs i ≠ 9 ∧ (rd xs i < 32 ∨ 126 < rd xs i) then ([], i, 10)
    else if trl xs i = true then decQ xs f (i + 1) out
    else decQ xs f (i + 1) (out ++ [rd xs i])
theorem skp_le (xs : List Int) (f : Nat) : ∀ i, i ≤ xs.length → i ≤ skp xs f i ∧ skp xs f i ≤ xs.length := by
  induction f with
  | zero => intro i hi; exact ⟨Nat.le_refl _, hi⟩
  | succ f ih =>
    intro i hi
    rw [skp]
    split
    · rename_i h
      have := ih (i + 1) h.1
      omega
    · exact ⟨Nat.le_refl _, hi⟩
theorem skp_step (xs : List Int) (i : Nat) (hi : i < xs.length) (hb : isBl (rd xs i) = true) : skp xs (xs.length - i) i = skp xs (xs.length - (i + 1)) (i + 1) := by
  obtain ⟨f, hf⟩ : ∃ f, xs.length - i = f + 1 := ⟨xs.length - i - 1, by omega⟩
  rw [hf, skp, if_pos ⟨hi, hb⟩, show xs.length - (i + 1) = f by omega]
theorem skp_not (xs : List Int) (f i : Nat) (hb : isBl (rd xs i) = false) : skp xs f i = i := by
  cases f with
  | zero => rfl
  | succ f => rw [skp, if_neg (by rw [hb]; simp)]
theorem trl_step (xs : List Int) (i : Nat) (hi : i < xs.length) (hb : isBl (rd xs i) = true) : trl xs i = trl xs (i + 1) := by
  unfold trl
  rw [skp_step xs i hi hb]
theorem prs_bl (xs : List Int) (i : Int) (hb : isBl (rd xs i) = true) : prs xs i = false := by
  simp only [isBl, decide_eq_true_eq] at hb
  exact decide_eq_false (by omega)
/-- A run of blanks, all at once. -/
theorem dec_run (xs : List Int) (n : Nat) : ∀ (f i : Nat) (out : List Int), (∀ j, i ≤ j → j < i + n → j < xs.length ∧ isBl (rd xs (j : Int)) = true) →
    decQ xs (f + n) i out = decQ xs f (i + n) (if trl xs i = true then out else out ++ (xs.drop i).take n) := by
  induction n with
  | zero => intro f i out _; simp
  | succ n ih =>
    intro f i out h
    obtain ⟨hi, hb⟩ := h i (Nat.le_refl _) (by omega)
    rw [show f + (n + 1) = (f + n) + 1 by omega, decQ, if_neg (by omega), if_neg (by rw [prs_bl xs i hb]; decide)]
    have hb2 := hb
    simp only [isBl, decide_eq_true_eq] at hb2
    rw [if_neg (by omega), if_neg (by omega)]
    have ht := trl_step xs i hi hb
    have hj : ∀ j, i + 1 ≤ j → j < i + 1 + n → j < xs.length ∧ isBl (rd xs (j : Int)) = true := fun j h1 h2 => h j (by omega) (by omega)
    by_cases h2 : trl xs i = true
    · rw [if_pos h2, if_pos h2, ih f (i + 1) out hj, if_pos (by rw [← ht]; exact h2)]
      congr 1
      omega
    · rw [if_neg h2, if_neg h2, ih f (i + 1) _ hj, if_neg (by rw [← ht]; exact h2)]
      rw [List.drop_eq_getElem_cons hi, rd_lt xs i hi, List.take_succ_cons, List.append_assoc]
      congr 1
      omega
open PQuotedEncodes in
theorem blanks_loop (s : ByteArray) (hs : s.size ≤ 4194304) (i : Nat) (hi : i ≤ s.size) (f : Nat) : ∀ n : Nat, i + n ≤ s.size → s.size - (i + n) ≤ f →
    Ev (fun k => quoted_blanks.l0 k s (i : Int) (n : Int)) ((skp (bytesOf s) (s.size - (i + n)) (i + n) - i : Nat) : Int) := by
  have HL : (bytesOf s).length = s.size := bytesOf_length s
  induction f with
  | zero =>
    intro n hn hf
    refine Ev.step (by intro k; rw [quoted_blanks.l0]) ?_
    rw [wrap64_id ((i : Int) + n) (by omega) (by omega)]
    refine Ev.neg (by omega) ?_
    rw [show s.size - (i + n) = 0 by omega, skp, show i + n - i = n by omega]
    exact Ev.done _
  | succ f ih =>
    intro n hn hf
    refine Ev.step (by intro k; rw [quoted_blanks.l0]) ?_
    rw [wrap64_id ((i : Int) + n) (by omega) (by omega)]
    by_cases hlt : i + n < s.size
    · refine Ev.pos (by omega) ?_
      refine Ev.pos (by omega) ?_
      rw [show ((i : Int) + n) = ((i + n : Nat) : Int) by omega, ← rd_bytesOf]
      have hnext := ih (n + 1) (by omega) (by omega)
      by_cases hb : isBl (rd (bytesOf s) ((i + n : Nat) : Int)) = true
      · have hst := skp_step (bytesOf s) (i + n) (by omega) hb
        rw [HL] at hst
        rw [hst]
        simp only [isBl, decide_eq_true_eq] at hb
        rw [wrap64_id ((n : Int) + 1) (by omega) (by omega)]
        by_cases h32 : rd (bytesOf s) ((i + n : Nat) : Int) = 32
        · refine Ev.pos h32 ?_; exact hnext
        · refine Ev.neg h32 ?_
          refine Ev.pos (by omega) ?_
          exact hnext
      · have hb' : isBl (rd (bytesOf s) ((i + n : Nat) : Int)) = false := by simpa using hb
        rw [skp_not _ _ _ hb', show i + n - i = n by omega]
        simp only [isBl, decide_eq_false_iff_not] at hb'
        refine Ev.neg (by omega) ?_
        refine Ev.neg (by omega) ?_
        exact Ev.done _
    · refine Ev.neg (by omega) ?_
      rw [show s.size - (i + n) = 0 by omega, skp, show i + n - i = n by omega]
      exact Ev.done _
open PQuotedEncodes in
theorem blanks_ev (s : ByteArray) (hs : s.size ≤ 4194304) (i : Nat) (hi : i ≤ s.size) : Ev (fun k => quoted_blanks.f k s (i : Int)) ((skp (bytesOf s) (s.size - i) i - i : Nat) : Int) :=
  blanks_loop s hs i hi s.size 0 (by omega) (by omega)
end Go.Proofs.Ytdebimpjbcihhaa
