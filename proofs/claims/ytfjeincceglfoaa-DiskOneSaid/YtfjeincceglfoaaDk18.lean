/- The law DiskOne, in plain terms: one sector alone may be torn. -/
import Derived.Test.YtfjeincceglfoaaDk16
namespace Go.Proofs.Ytfjeincceglfoaa
open Go.RowKit Go.Proofs.YtfjeincceglfoaaW.PrintWords

def oneS (D : DS) (o : OpV) : DS := if o.kind = 0 then (callV D o).2 else D
structure One (ops : List OpV) (D0 D : DS) : Prop where
  size : D.size = D0.size
  sure : D.sure = D0.sure
  plan : D.planned = false
  after : D.after = D0.after
  pend : ∀ p ∈ D.pend, ∃ o ∈ ops, o.kind = 0 ∧ o.bad = false ∧ p = (o.at_, bytesV o.fill false)
theorem One.step {ops : List OpV} {D0 D : DS} (h : One ops D0 D) (o : OpV) (ho : o ∈ ops) : One ops D0 (oneS D o) ∧ (oneS D o).pend.length ≤ D.pend.length + 1 := by
  unfold oneS
  split
  · rename_i hc
    unfold callV
    rw [if_pos hc]
    unfold writeV
    rw [planV_np h.plan]
    split
    · exact ⟨h, by simp⟩
    · split
      · exact ⟨h, by simp⟩
      · rename_i hl
        simp only [ne_eq, not_true, if_false]
        refine ⟨⟨h.size, h.sure, h.plan, h.after, fun p hp => ?_⟩, by simp⟩
        rcases List.mem_append.1 hp with hp | hp
        · exact h.pend p hp
        · simp at hp
          subst hp
          rw [bytesV_len] at hl
          have hb : o.bad = false := by
            cases hb : o.bad
            · rfl
            · rw [hb] at hl; exact absurd hl (by decide)
          exact ⟨o, ho, hc, hb, by rw [hb]⟩
  · exact ⟨h, by simp⟩
theorem One.fold {ops : List OpV} {D0 : DS} : ∀ (l : List OpV) {D : DS}, One ops D0 D → (∀ o ∈ l, o ∈ ops) → One ops D0 (l.foldl oneS D) ∧ (l.foldl oneS D).pend.length ≤ D.pend.length + l.length
  | [], _, h, _ => ⟨h, by simp⟩
  | o :: l, D, h, hl => by
    have h1 := h.step o (hl o (by simp))
    have h2 := One.fold l h1.1 (fun q hq => hl q (by simp [hq]))
    simp only [List.foldl_cons, List.length_cons]
    exact ⟨h2.1, by omega⟩
theorem one_take (ops : List OpV) (D : DS) (j : Nat) (hj : j < ops.length) : (ops.take (j + 1)).foldl oneS D = oneS ((ops.take j).foldl oneS D) ops[j] := by
  rw [List.take_succ_eq_append_getElem hj, List.foldl_append]
  rfl
theorem flush_cases (i : Int) : ∀ (ps : List (Int × List Int)) (S : Int → List Int), flush S ps i = S i ∨ ∃ p ∈ ps, p.1 = i ∧ flush S ps i = p.2
  | [], _ => .inl rfl
  | p :: ps, S => by
    rw [show flush S (p :: ps) = flush (updS S p.1 p.2) ps from rfl]
    rcases flush_cases i ps (updS S p.1 p.2) with h | ⟨q, hq, h1, h2⟩
    · rw [h]
      unfold updS
      split
      · rename_i e
        exact .inr ⟨p, by simp, e.symm, rfl⟩
      · exact .inl rfl
    · exact .inr ⟨q, by simp [hq], h1, h2⟩
/-- The sector that a crash tears, if any. -/
def tornAt (D : DS) (k : Int) : Option Int := ((D.pend.drop (clampN k D.pend.length)).head?).map Prod.fst
/-- A sector that is whole behind the crash. -/
def Whole (more : List OpV) (D0 C : DS) (i : Int) : Prop := hasV C.size i ≠ 0 ∨ readR C i = readR D0 i ∨ ∃ j, ∃ h : j < more.length, j < 40 ∧ more[j].kind = 0 ∧ more[j].at_ = i ∧ more[j].bad = false ∧ bytesV more[j].fill more[j].bad = readR C i
theorem one_whole (more : List OpV) (D0 D : DS) (h0 : D0.pend = []) (h : One (more.take 40) D0 D) (k t i : Int) (hi : tornAt D k ≠ some i) : Whole more D0 (crashV D k t) i := by
  unfold Whole
  by_cases hv : hasV (crashV D k t).size i = 0
  · right
    have hv0 : hasV D0.size i = 0 := by rw [← h.size]; exact hv
    have e1 : readR (crashV D k t) i = crashS D.sure D.pend (clampN k D.pend.length) (clampN t 256) i := by
      unfold readR
      rw [if_pos hv]
      rfl
    have e2 : readR D0 i = D.sure i := by
      unfold readR readV
      rw [if_pos hv0, h0, h.sure]
      rfl
    have e3 : crashS D.sure D.pend (clampN k D.pend.length) (clampN t 256) i = flush D.sure (D.pend.take (clampN k D.pend.length)) i := by
      unfold tornAt at hi
      unfold crashS
      rcases hd : D.pend.drop (clampN k D.pend.length) with _ | ⟨p, l⟩
      · rfl
      · rw [hd] at hi
        show updS _ p.1 _ i = _
        unfold updS
        rw [if_neg]
        intro e
        exact hi (by simp [e])
    rw [e1, e2, e3]
    rcases flush_cases i (D.pend.take (clampN k D.pend.length)) D.sure with h9 | ⟨p, hp, h1, h2⟩
    · exact .inl h9
    · right
      obtain ⟨o, ho, hk, hb, he⟩ := h.pend p (List.mem_of_mem_take hp)
      obtain ⟨j, hj, hjo⟩ := List.getElem_of_mem ho
      have hj2 : j < more.length ∧ j < 40 := by rw [List.length_take] at hj; omega
      have hjo2 : more[j]'hj2.1 = o := by rw [← hjo, List.getElem_take]
      refine ⟨j, hj2.1, hj2.2, ?_⟩
      rw [hjo2, h2]
      subst he
      exact ⟨hk, h1, hb, by rw [hb]⟩
  · exact .inl hv
end Go.Proofs.Ytfjeincceglfoaa
