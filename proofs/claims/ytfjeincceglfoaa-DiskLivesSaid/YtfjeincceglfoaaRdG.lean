/- disk, plain: the program's disk and the document's, side by side. -/
import Derived.Test.YtfjeincceglfoaaRdF
namespace Go.Proofs.Ytfjeincceglfoaa
set_option linter.unusedVariables false
set_option linter.unusedSimpArgs false
open Go.RowKit Go.Proofs.YtfjeincceglfoaaW.PrintWords Go.Proofs.YtfjeincceglfoaaW.PrintLast

structure Rel (D : DS) (R : RS) : Prop where
  size : R.size = D.size
  pend : R.pend = D.pend
  sure : ∀ k, nowP R.sure k z256 = D.sure k
  yes : D.planned = true → R.after = D.after ∧ R.err = D.err ∧ 0 ≤ D.after
  no : D.planned = false → R.after < 0
theorem nowP_append (S P : List (Int × List Int)) (k : Int) (b : List Int) : nowP (S ++ P) k b = nowP P k (nowP S k b) := by
  induction S generalizing b with
  | nil => rfl
  | cons p S ih => rw [List.cons_append, nowP, nowP, ih]
theorem flush_now (S : Int → List Int) (P : List (Int × List Int)) (k : Int) : flush S P k = nowP P k (S k) := by
  induction P generalizing S with
  | nil => rfl
  | cons p P ih =>
    show flush (updS S p.1 p.2) P k = _
    rw [ih, nowP]
    unfold updS
    by_cases h : k = p.1
    · rw [if_pos h, if_pos h.symm]
    · rw [if_neg h, if_neg (fun e => h e.symm)]
theorem Rel.new (n : Int) : Rel (newD n) (newR n) := ⟨rfl, rfl, fun _ => rfl, fun h => (by cases h), fun _ => (by show (-1 : Int) < 0; decide)⟩
theorem Rel.plan {D : DS} {R : RS} (h : Rel D R) : (planR R).1 = (planV D).1 ∧ Rel (planV D).2 (planR R).2 := by
  unfold planR planV
  rcases hp : D.planned with _ | _
  · rw [if_pos (h.no hp), if_pos rfl]
    exact ⟨rfl, h⟩
  · obtain ⟨h1, h2, h3⟩ := h.yes hp
    rw [if_neg (show ¬ R.after < 0 by omega), if_neg (show ¬ (true = false) by decide)]
    by_cases h0 : 0 < D.after
    · rw [if_pos h0, if_neg (show ¬ R.after < 1 by omega)]
      exact ⟨rfl, h.size, h.pend, h.sure, fun _ => ⟨by show R.after - 1 = D.after - 1; rw [h1], h2, by show 0 ≤ D.after - 1; omega⟩, fun e => (by cases e)⟩
    · rw [if_neg h0, if_pos (show R.after < 1 by omega)]
      exact ⟨h2, h.size, h.pend, h.sure, fun e => (by cases e), fun _ => (by show R.after - 1 < 0; omega)⟩
theorem hasV_one {n i : Int} (h : hasV n i ≠ 0) : hasV n i = 1 := by
  unfold hasV at h ⊢
  split
  · rename_i h2; rw [if_pos h2] at h; exact absurd rfl h
  · rfl
theorem Rel.write {D : DS} {R : RS} (h : Rel D R) (i : Int) (xs : List Int) : (writeR R i xs).1 = (writeV D i xs).1 ∧ Rel (writeV D i xs).2 (writeR R i xs).2 := by
  unfold writeR writeV
  rw [h.size]
  obtain ⟨hp1, hp2⟩ := h.plan
  by_cases h1 : hasV D.size i ≠ 0
  · rw [if_pos h1, if_pos (.inl h1)]
    exact ⟨(hasV_one h1).symm, h⟩
  · rw [if_neg h1]
    by_cases h2 : xs.length ≠ 256
    · rw [if_pos h2, if_pos (.inr h2)]
      exact ⟨rfl, h⟩
    · rw [if_neg h2, if_neg (fun e => e.elim h1 h2)]
      by_cases h3 : (planV D).1 = 0
      · rw [if_neg (show ¬ (planV D).1 ≠ 0 by simp [h3]), if_neg (show ¬ (planR R).1 ≠ 0 by rw [hp1]; simp [h3])]
        refine ⟨rfl, hp2.size, ?_, hp2.sure, hp2.yes, hp2.no⟩
        show (planR R).2.pend ++ [(i, xs)] = D.pend ++ [(i, xs)]
        rw [hp2.pend, (planV_pend D).1]
      · rw [if_pos h3, if_pos (show (planR R).1 ≠ 0 by rw [hp1]; exact h3)]
        exact ⟨hp1, hp2⟩
theorem Rel.sync {D : DS} {R : RS} (h : Rel D R) : (syncR R).1 = (syncV D).1 ∧ Rel (syncV D).2 (syncR R).2 := by
  unfold syncR syncV
  obtain ⟨hp1, hp2⟩ := h.plan
  by_cases h3 : (planV D).1 = 0
  · rw [if_neg (show ¬ (planV D).1 ≠ 0 by simp [h3]), if_neg (show ¬ (planR R).1 ≠ 0 by rw [hp1]; simp [h3])]
    refine ⟨rfl, hp2.size, rfl, fun k => ?_, hp2.yes, hp2.no⟩
    show nowP (R.sure ++ R.pend) k z256 = flush D.sure D.pend k
    rw [nowP_append, flush_now, h.sure, h.pend]
  · rw [if_pos h3, if_pos (show (planR R).1 ≠ 0 by rw [hp1]; exact h3)]
    exact ⟨hp1, hp2⟩
theorem Rel.crash {D : DS} {R : RS} (h : Rel D R) (keep torn : Int) : Rel (crashV D keep torn) (crashR R keep torn) := by
  refine ⟨h.size, rfl, fun k => ?_, fun e => (by cases e), fun _ => (by show (-1 : Int) < 0; decide)⟩
  show nowP (crashL R.sure R.pend (clampN keep R.pend.length) (clampN torn 256)) k z256 = crashS D.sure D.pend (clampN keep D.pend.length) (clampN torn 256) k
  rw [h.pend]
  generalize clampN keep D.pend.length = n
  generalize clampN torn 256 = t
  unfold crashL crashS
  have hb : ∀ k, nowP (R.sure ++ D.pend.take n) k z256 = flush D.sure (D.pend.take n) k := fun k => by rw [nowP_append, flush_now, h.sure]
  by_cases hn : n < D.pend.length
  · rw [List.getElem?_eq_getElem hn, List.drop_eq_getElem_cons hn]
    simp only
    rw [nowP_snoc, hb, hb]
    unfold updS
    by_cases e : k = D.pend[n].1
    · rw [if_pos e.symm, if_pos e]
    · rw [if_neg (fun e2 => e e2.symm), if_neg e]
  · rw [List.getElem?_eq_none (by omega), List.drop_eq_nil_of_le (by omega)]
    simp only [List.append_nil]
    exact hb k
theorem Rel.fail {D : DS} {R : RS} (h : Rel D R) (a e : Int) : (failR R a e).1 = (failV D a e).1 ∧ Rel (failV D a e).2 (failR R a e).2 := by
  unfold failR failV
  by_cases he : e = 160 ∨ e = 7
  · rw [if_pos he, if_pos he]
    refine ⟨rfl, h.size, h.pend, h.sure, fun h1 => ?_, fun h1 => ?_⟩
    · have h2 : 0 ≤ a := of_decide_eq_true h1
      exact ⟨if_neg (by omega), rfl, h2⟩
    · have h2 : ¬ 0 ≤ a := of_decide_eq_false h1
      show (if a < 0 then (-1 : Int) else a) < 0
      rw [if_pos (by omega)]; decide
  · rw [if_neg he, if_neg he]
    exact ⟨rfl, h⟩
theorem Rel.turn {D : DS} {R : RS} (h : Rel D R) (i pl y : Int) : (turnR R i pl y).1 = (turnV D i pl y).1 ∧ Rel (turnV D i pl y).2 (turnR R i pl y).2 := by
  unfold turnR turnV
  rw [h.size]
  by_cases h1 : hasV D.size i ≠ 0
  · rw [if_pos h1, if_pos (.inl h1)]
    exact ⟨(hasV_one h1).symm, h⟩
  · rw [if_neg h1]
    by_cases h2 : pl < 0 ∨ 256 ≤ pl
    · rw [if_pos h2, if_pos (.inr h2)]
      exact ⟨rfl, h⟩
    · rw [if_neg h2, if_neg (fun e => e.elim h1 h2)]
      refine ⟨rfl, rfl, ?_, fun k => ?_, h.yes, h.no⟩
      · show R.pend.map _ = D.pend.map _
        rw [h.pend]
      · show nowP (R.sure ++ [(i, xorB (nowP R.sure i z256) pl.toNat y)]) k z256 = updS D.sure i (xorB (D.sure i) pl.toNat y) k
        rw [nowP_snoc, h.sure, h.sure]
        unfold updS
        by_cases e : k = i
        · rw [if_pos e.symm, if_pos e]
        · rw [if_neg (fun e2 => e e2.symm), if_neg e]
theorem Rel.call {D : DS} {R : RS} (h : Rel D R) (o : OpV) : (modelR R o).1 = (callV D o).1 ∧ Rel (callV D o).2 (modelR R o).2 := by
  unfold modelR callV
  by_cases h0 : o.kind = 0
  · rw [if_pos h0, if_pos h0]; exact h.write _ _
  rw [if_neg h0, if_neg h0]
  by_cases h1 : o.kind = 1
  · rw [if_pos h1, if_pos h1]; exact h.sync
  rw [if_neg h1, if_neg h1]
  by_cases h2 : o.kind = 2
  · rw [if_pos h2, if_pos h2]; exact ⟨rfl, h.crash _ _⟩
  rw [if_neg h2, if_neg h2]
  by_cases h3 : o.kind = 3
  · rw [if_pos h3, if_pos h3]; exact h.fail _ _
  rw [if_neg h3, if_neg h3]
  by_cases h4 : o.kind = 4
  · rw [if_pos h4, if_pos h4]; exact h.turn _ _ _
  rw [if_neg h4, if_neg h4]
  exact ⟨rfl, h⟩
theorem Rel.read {D : DS} {R : RS} (h : Rel D R) (i : Int) : nowR R i = readV D i := by
  unfold nowR readV
  rw [h.sure, h.pend]
/-! How much there is of it. -/
structure Room (D : DS) (R : RS) (m : Nat) : Prop where
  n : R.sure.length + R.pend.length ≤ m
  d : D.after ≤ 9223372036854775807
  r : R.after ≤ 9223372036854775807
theorem planR_room (R : RS) (h : R.after ≤ 9223372036854775807) : (planR R).2.after ≤ 9223372036854775807 := by
  unfold planR
  split
  · exact h
  · split
    · show R.after - 1 ≤ _; omega
    · show R.after - 1 ≤ _; omega
theorem planV_room (D : DS) (h : D.after ≤ 9223372036854775807) : (planV D).2.after ≤ 9223372036854775807 := by
  unfold planV
  split
  · exact h
  · split
    · show D.after - 1 ≤ _; omega
    · exact h
theorem crashL_len (S P : List (Int × List Int)) (n t : Nat) : (crashL S P n t).length ≤ S.length + P.length + 1 := by
  unfold crashL
  rw [List.length_append, List.length_append, List.length_take]
  split
  · simp only [List.length_cons, List.length_nil]; omega
  · simp only [List.length_nil]; omega
theorem Room.call {D : DS} {R : RS} {m : Nat} (h : Room D R m) (hr : Rel D R) (o : OpV) (ho : o.n ≤ 9223372036854775807) : Room (callV D o).2 (modelR R o).2 (m + 1) := by
  have hn := h.n
  obtain ⟨hk1, hk2, hk3⟩ := planR_keeps R
  have hpr := planR_room R h.r
  have hpv := planV_room D h.d
  unfold modelR callV
  by_cases h0 : o.kind = 0
  · rw [if_pos h0, if_pos h0]
    constructor
    · unfold writeR
      split
      · show R.sure.length + R.pend.length ≤ _; omega
      · split
        · rw [hk2, hk3]; omega
        · show (planR R).2.sure.length + ((planR R).2.pend ++ _).length ≤ _
          rw [List.length_append, hk2, hk3]; simp; omega
    · unfold writeV
      split
      · exact h.d
      · split
        · exact h.d
        · split
          · exact hpv
          · exact hpv
    · unfold writeR
      split
      · exact h.r
      · split
        · exact hpr
        · exact hpr
  rw [if_neg h0, if_neg h0]
  by_cases h1 : o.kind = 1
  · rw [if_pos h1, if_pos h1]
    constructor
    · unfold syncR
      split
      · rw [hk2, hk3]; omega
      · show (R.sure ++ R.pend).length + 0 ≤ _
        rw [List.length_append]; omega
    · unfold syncV
      split
      · exact hpv
      · exact hpv
    · unfold syncR
      split
      · exact hpr
      · exact hpr
  rw [if_neg h1, if_neg h1]
  by_cases h2 : o.kind = 2
  · rw [if_pos h2, if_pos h2]
    refine ⟨?_, h.d, by show (-1 : Int) ≤ _; decide⟩
    show (crashL R.sure R.pend _ _).length + 0 ≤ _
    have := crashL_len R.sure R.pend (clampN o.n R.pend.length) (clampN o.torn 256)
    omega
  rw [if_neg h2, if_neg h2]
  by_cases h3 : o.kind = 3
  · rw [if_pos h3, if_pos h3]
    constructor
    · unfold failR
      split
      · show R.sure.length + R.pend.length ≤ _; omega
      · show R.sure.length + R.pend.length ≤ _; omega
    · unfold failV
      split
      · exact ho
      · exact h.d
    · unfold failR
      split
      · show (if o.n < 0 then (-1 : Int) else o.n) ≤ _
        split
        · decide
        · exact ho
      · exact h.r
  rw [if_neg h3, if_neg h3]
  by_cases h4 : o.kind = 4
  · rw [if_pos h4, if_pos h4]
    constructor
    · unfold turnR
      split
      · show R.sure.length + R.pend.length ≤ _; omega
      · show (R.sure ++ _).length + (R.pend.map _).length ≤ _
        rw [List.length_append, List.length_map]; simp; omega
    · unfold turnV
      split
      · exact h.d
      · split
        · exact h.d
        · exact h.d
    · unfold turnR
      split
      · exact h.r
      · exact h.r
  rw [if_neg h4, if_neg h4]
  exact ⟨by show R.sure.length + R.pend.length ≤ _; omega, h.d, h.r⟩
end Go.Proofs.Ytfjeincceglfoaa
