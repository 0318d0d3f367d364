/- disk, plain, for stores: the program's disk and the document's, side by side. -/
import Derived.Test.YtlmdghafiadgjaaRdE
import Derived.Test.YtlmdghafiadgjaaPg7
namespace Go.Proofs.Ytlmdghafiadgjaa
set_option maxRecDepth 100000
set_option linter.unusedVariables false
set_option linter.unusedSimpArgs false
open Go.RowKit Go.Proofs.YtlmdghafiadgjaaW.PrintWords Go.Proofs.YtlmdghafiadgjaaW.PrintLast

structure Rel (D : DS) (R : RS) : Prop where
  size : R.size = D.size
  pend : R.pend = D.pend
  sure : ∀ k, nowP R.sure k z256 = D.sure k
  yes : D.planned = true → R.after = D.after ∧ R.err = D.err ∧ 0 ≤ D.after
  no : D.planned = false → R.after < 0
theorem nowP_append (S P : List (Int × List Int)) (k : Int) (b : List Int) : nowP (S ++ P) k b = nowP P k (nowP S k b) := by
  induction S generalizing b with
  | nil => rfl
  | cons p S ih => rw [List.cons_append, nowP, nowP, ih]
theorem flush_now (S : Int → List Int) (P : List (Int × List Int)) (k : Int) : flush S P k = nowP P k (S k) := by
  induction P generalizing S with
  | nil => rfl
  | cons p P ih =>
    show flush (updS S p.1 p.2) P k = _
    rw [ih, nowP]
    unfold updS
    by_cases h : k = p.1
    · rw [if_pos h, if_pos h.symm]
    · rw [if_neg h, if_neg (fun e => h e.symm)]
theorem Rel.new (n : Int) : Rel (newD n) (newR n) := ⟨rfl, rfl, fun _ => rfl, fun h => (by cases h), fun _ => (by show (-1 : Int) < 0; decide)⟩
theorem Rel.plan {D : DS} {R : RS} (h : Rel D R) : (planR R).1 = (planV D).1 ∧ Rel (planV D).2 (planR R).2 := by
  unfold planR planV
  rcases hp : D.planned with _ | _
  · rw [if_pos (h.no hp), if_pos rfl]
    exact ⟨rfl, h⟩
  · obtain ⟨h1, h2, h3⟩ := h.yes hp
    rw [if_neg (show ¬ R.after < 0 by omega), if_neg (show ¬ (true = false) by decide)]
    by_cases h0 : 0 < D.after
    · rw [if_pos h0, if_neg (show ¬ R.after < 1 by omega)]
      exact ⟨rfl, h.size, h.pend, h.sure, fun _ => ⟨by show R.after - 1 = D.after - 1; rw [h1], h2, by show 0 ≤ D.after - 1; omega⟩, fun e => (by cases e)⟩
    · rw [if_neg h0, if_pos (show R.after < 1 by omega)]
      exact ⟨h2, h.size, h.pend, h.sure, fun e => (by cases e), fun _ => (by show R.after - 1 < 0; omega)⟩
theorem hasV_one {n i : Int} (h : hasV n i ≠ 0) : hasV n i = 1 := by
  unfold hasV at h ⊢
  split
  · rename_i h2; rw [if_pos h2] at h; exact absurd rfl h
  · rfl
theorem Rel.write {D : DS} {R : RS} (h : Rel D R) (i : Int) (xs : List Int) : (writeR R i xs).1 = (writeV D i xs).1 ∧ Rel (writeV D i xs).2 (writeR R i xs).2 := by
  unfold writeR writeV
  rw [h.size]
  obtain ⟨hp1, hp2⟩ := h.plan
  by_cases h1 : hasV D.size i ≠ 0
  · rw [if_pos h1, if_pos (.inl h1)]
    exact ⟨(hasV_one h1).symm, h⟩
  · rw [if_neg h1]
    by_cases h2 : xs.length ≠ 256
    · rw [if_pos h2, if_pos (.inr h2)]
      exact ⟨rfl, h⟩
    · rw [if_neg h2, if_neg (fun e => e.elim h1 h2)]
      by_cases h3 : (planV D).1 = 0
      · rw [if_neg (show ¬ (planV D).1 ≠ 0 by simp [h3]), if_neg (show ¬ (planR R).1 ≠ 0 by rw [hp1]; simp [h3])]
        refine ⟨rfl, hp2.size, ?_, hp2.sure, hp2.yes, hp2.no⟩
        show (planR R).2.pend ++ [(i, xs)] = D.pend ++ [(i, xs)]
        rw [hp2.pend, (planV_pend D).1]
      · rw [if_pos h3, if_pos (show (planR R).1 ≠ 0 by rw [hp1]; exact h3)]
        exact ⟨hp1, hp2⟩
theorem Rel.sync {D : DS} {R : RS} (h : Rel D R) : (syncR R).1 = (syncV D).1 ∧ Rel (syncV D).2 (syncR R).2 := by
  unfold syncR syncV
  obtain ⟨hp1, hp2⟩ := h.plan
  by_cases h3 : (planV D).1 = 0
  · rw [if_neg (show ¬ (planV D).1 ≠ 0 by simp [h3]), if_neg (show ¬ (planR R).1 ≠ 0 by rw [hp1]; simp [h3])]
    refine ⟨rfl, hp2.size, rfl, fun k => ?_, hp2.yes, hp2.no⟩
    show nowP (R.sure ++ R.pend) k z256 = flush D.sure D.pend k
    rw [nowP_append, flush_now, h.sure, h.pend]
  · rw [if_pos h3, if_pos (show (planR R).1 ≠ 0 by rw [hp1]; exact h3)]
    exact ⟨hp1, hp2⟩
theorem Rel.crash {D : DS} {R : RS} (h : Rel D R) (keep torn : Int) : Rel (crashV D keep torn) (crashR R keep torn) := by
  refine ⟨h.size, rfl, fun k => ?_, fun e => (by cases e), fun _ => (by show (-1 : Int) < 0; decide)⟩
  show nowP (crashL R.sure R.pend (clampN keep R.pend.length) (clampN torn 256)) k z256 = crashS D.sure D.pend (clampN keep D.pend.length) (clampN torn 256) k
  rw [h.pend]
  generalize clampN keep D.pend.length = n
  generalize clampN torn 256 = t
  unfold crashL crashS
  have hb : ∀ k, nowP (R.sure ++ D.pend.take n) k z256 = flush D.sure (D.pend.take n) k := fun k => by rw [nowP_append, flush_now, h.sure]
  by_cases hn : n < D.pend.length
  · rw [List.getElem?_eq_getElem hn, List.drop_eq_getElem_cons hn]
    simp only
    rw [nowP_snoc, hb, hb]
    unfold updS
    by_cases e : k = D.pend[n].1
    · rw [if_pos e.symm, if_pos e]
    · rw [if_neg (fun e2 => e e2.symm), if_neg e]
  · rw [List.getElem?_eq_none (by omega), List.drop_eq_nil_of_le (by omega)]
    simp only [List.append_nil]
    exact hb k
theorem Rel.fail {D : DS} {R : RS} (h : Rel D R) (a e : Int) : (failR R a e).1 = (failV D a e).1 ∧ Rel (failV D a e).2 (failR R a e).2 := by
  unfold failR failV
  by_cases he : e = 160 ∨ e = 7
  · rw [if_pos he, if_pos he]
    refine ⟨rfl, h.size, h.pend, h.sure, fun h1 => ?_, fun h1 => ?_⟩
    · have h2 : 0 ≤ a := of_decide_eq_true h1
      exact ⟨if_neg (by omega), rfl, h2⟩
    · have h2 : ¬ 0 ≤ a := of_decide_eq_false h1
      show (if a < 0 then (-1 : Int) else a) < 0
      rw [if_pos (by omega)]; decide
  · rw [if_neg he, if_neg he]
    exact ⟨rfl, h⟩
theorem Rel.read {D : DS} {R : RS} (h : Rel D R) (i : Int) : nowR R i = readV D i := by
  unfold nowR readV
  rw [h.sure, h.pend]
/-- Both, and how much there is. -/
structure RM (D : DS) (R : RS) (m : Nat) : Prop where
  rel : Rel D R
  n : R.sure.length + R.pend.length ≤ m
  d : D.after ≤ 9223372036854775807
  r : R.after ≤ 9223372036854775807
theorem planR_after (R : RS) (h : R.after ≤ 9223372036854775807) : (planR R).2.after ≤ 9223372036854775807 := by
  unfold planR
  split
  · exact h
  · split
    · show R.after - 1 ≤ _; omega
    · show R.after - 1 ≤ _; omega
theorem RM.new (n : Int) : RM (newD n) (newR n) 0 := ⟨Rel.new n, Nat.le_refl _, (by show (0 : Int) ≤ _; decide), (by show (-1 : Int) ≤ _; decide)⟩
theorem RM.more {D : DS} {R : RS} {m m' : Nat} (h : RM D R m) (hm : m ≤ m') : RM D R m' := ⟨h.rel, Nat.le_trans h.n hm, h.d, h.r⟩
theorem RM.write {D : DS} {R : RS} {m : Nat} (h : RM D R m) (i : Int) (xs : List Int) : (writeR R i xs).1 = (writeV D i xs).1 ∧ RM (writeV D i xs).2 (writeR R i xs).2 (m + 1) := by
  obtain ⟨h1, h2⟩ := h.rel.write i xs
  obtain ⟨hk1, hk2, hk3⟩ := planR_keeps R
  have hn := h.n
  refine ⟨h1, h2, ?_, Int.le_trans (writeV_keeps D i xs).1 h.d, ?_⟩
  · unfold writeR
    split
    · show R.sure.length + R.pend.length ≤ _; omega
    · split
      · rw [hk2, hk3]; omega
      · show (planR R).2.sure.length + ((planR R).2.pend ++ _).length ≤ _
        rw [List.length_append, hk2, hk3]; simp; omega
  · unfold writeR
    split
    · exact h.r
    · split
      · exact planR_after R h.r
      · exact planR_after R h.r
theorem RM.sync {D : DS} {R : RS} {m : Nat} (h : RM D R m) : (syncR R).1 = (syncV D).1 ∧ RM (syncV D).2 (syncR R).2 m := by
  obtain ⟨h1, h2⟩ := h.rel.sync
  obtain ⟨hk1, hk2, hk3⟩ := planR_keeps R
  have hn := h.n
  have hpv : (planV D).2.after ≤ D.after := planV_after D
  have hd := h.d
  refine ⟨h1, h2, ?_, ?_, ?_⟩
  · unfold syncR
    split
    · rw [hk2, hk3]; omega
    · show (R.sure ++ R.pend).length + 0 ≤ _
      rw [List.length_append]; omega
  · unfold syncV
    split
    · omega
    · show (planV D).2.after ≤ _; omega
  · unfold syncR
    split
    · exact planR_after R h.r
    · exact planR_after R h.r
theorem crashL_len (S P : List (Int × List Int)) (n t : Nat) : (crashL S P n t).length ≤ S.length + P.length + 1 := by
  unfold crashL
  rw [List.length_append, List.length_append, List.length_take]
  split
  · simp only [List.length_cons, List.length_nil]; omega
  · simp only [List.length_nil]; omega
theorem RM.crash {D : DS} {R : RS} {m : Nat} (h : RM D R m) (k t : Int) : RM (crashV D k t) (crashR R k t) (m + 1) := by
  have hn := h.n
  refine ⟨h.rel.crash k t, ?_, h.d, by show (-1 : Int) ≤ _; decide⟩
  show (crashL R.sure R.pend _ _).length + 0 ≤ _
  have := crashL_len R.sure R.pend (clampN k R.pend.length) (clampN t 256)
  omega
theorem RM.fail {D : DS} {R : RS} {m : Nat} (h : RM D R m) (a e : Int) (ha : a ≤ 9223372036854775807) : (failR R a e).1 = (failV D a e).1 ∧ RM (failV D a e).2 (failR R a e).2 m := by
  obtain ⟨h1, h2⟩ := h.rel.fail a e
  have hn := h.n
  refine ⟨h1, h2, ?_, ?_, ?_⟩
  · unfold failR
    split
    · show R.sure.length + R.pend.length ≤ _; omega
    · omega
  · unfold failV
    split
    · exact ha
    · exact h.d
  · unfold failR
    split
    · show (if a < 0 then (-1 : Int) else a) ≤ _
      split
      · decide
      · exact ha
    · exact h.r
/-- A page's writes, on the document's disk. -/
def rstoR (R : RS) (n : Int) (b : List Int) : Nat → Int × RS
  | 0 => (0, R)
  | k + 1 => if (rstoR R n b k).1 ≠ 0 then rstoR R n b k else writeR (rstoR R n b k).2 (4 * n + (k : Int)) (seg b (256 * k) (256 * k + 256))
theorem RM.sto {D : DS} {R : RS} {m : Nat} (h : RM D R m) (n : Int) (b : List Int) : ∀ k, (rstoR R n b k).1 = (stoV D n b k).1 ∧ RM (stoV D n b k).2 (rstoR R n b k).2 (m + k)
  | 0 => ⟨rfl, h⟩
  | k + 1 => by
    obtain ⟨h1, h2⟩ := RM.sto h n b k
    unfold rstoR stoV
    rw [h1, Int.mul_comm 4 n]
    by_cases he : (stoV D n b k).1 ≠ 0
    · rw [if_pos he, if_pos he]
      exact ⟨h1, h2.more (by omega)⟩
    · rw [if_neg he, if_neg he]
      exact h2.write _ _
theorem rstoR_stop (D : RS) (n : Int) (b : List Int) (k : Nat) (h : (rstoR D n b k).1 ≠ 0) : ∀ j, rstoR D n b (k + j) = rstoR D n b k
  | 0 => rfl
  | j + 1 => by
    have := rstoR_stop D n b k h j
    show rstoR D n b ((k + j) + 1) = _
    rw [rstoR, if_pos (by rw [this]; exact h), this]
theorem writeR_keeps (R : RS) (i : Int) (xs : List Int) : (writeR R i xs).2.pend.length ≤ R.pend.length + 1 ∧ (R.after ≤ 9223372036854775807 → (writeR R i xs).2.after ≤ 9223372036854775807) := by
  obtain ⟨hk1, hk2, hk3⟩ := planR_keeps R
  unfold writeR
  split
  · exact ⟨by simp, fun h => h⟩
  · split
    · exact ⟨by rw [hk3]; omega, planR_after R⟩
    · refine ⟨?_, planR_after R⟩
      show ((planR R).2.pend ++ _).length ≤ _
      rw [List.length_append, hk3]; simp
theorem rstoR_keeps (R : RS) (n : Int) (b : List Int) : ∀ k, (rstoR R n b k).2.pend.length ≤ R.pend.length + k ∧ (R.after ≤ 9223372036854775807 → (rstoR R n b k).2.after ≤ 9223372036854775807)
  | 0 => ⟨by simp [rstoR], fun h => h⟩
  | k + 1 => by
    have h := rstoR_keeps R n b k
    unfold rstoR
    split
    · exact ⟨by omega, h.2⟩
    · have h2 := writeR_keeps (rstoR R n b k).2 (4 * n + (k : Int)) (seg b (256 * k) (256 * k + 256))
      exact ⟨by omega, fun h9 => h2.2 (h.2 h9)⟩
end Go.Proofs.Ytlmdghafiadgjaa
