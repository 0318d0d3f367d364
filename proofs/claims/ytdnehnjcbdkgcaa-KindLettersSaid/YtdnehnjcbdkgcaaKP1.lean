/- kind, plain: what is written is read as it was. -/
import Derived.Test.YtdnehnjcbdkgcaaK14
namespace Go.Proofs.Ytdnehnjcbdkgcaa
set_option linter.unusedVariables false
set_option linter.unusedSimpArgs false

theorem sgn_not_blank {c : Int} (h : sgnB c = true) : 33 ≤ c ∧ c ≤ 126 ∧ c ≠ 34 ∧ c ≠ 59 ∧ c ≠ 61 ∧ c ≠ 47 := by
  unfold sgnB at h
  simp only [Bool.and_eq_true, decide_eq_true_eq, Bool.not_eq_true'] at h
  refine ⟨h.1.1, h.1.2, ?_, ?_, ?_, ?_⟩ <;>
  · rintro rfl
    exact absurd h.2 (by decide)
/-- No sign stands in front. -/
def NoSgn (r : List Int) : Prop := r = [] ∨ ∃ c t, r = c :: t ∧ sgnB c = false
theorem tok_app {t r : List Int} (h : ∀ c ∈ t, sgnB c = true) (hr : NoSgn r) : tokL (t ++ r) = t ∧ restL (t ++ r) = r := by
  have h2 : r.takeWhile sgnB = [] ∧ r.dropWhile sgnB = r := by
    rcases hr with rfl | ⟨c, t', rfl, hc⟩
    · exact ⟨rfl, rfl⟩
    · exact ⟨by rw [List.takeWhile_cons_of_neg (by rw [hc]; decide)], by rw [List.dropWhile_cons_of_neg (by rw [hc]; decide)]⟩
  unfold tokL restL
  exact ⟨by rw [List.takeWhile_append_of_pos h, h2.1, List.append_nil], by rw [List.dropWhile_append_of_pos h, h2.2]⟩
theorem quoL_esc (r : List Int) : ∀ (v acc : List Int), quoL acc (escL v ++ 34 :: r) = some (acc ++ v, r)
  | [], acc => by
    rw [show escL [] ++ 34 :: r = 34 :: r from rfl, quoL_q _ _ _ rfl, List.append_nil]
  | c :: v, acc => by
    rw [show escL (c :: v) = escC c ++ escL v from rfl]
    unfold escC
    by_cases h : c = 34 ∨ c = 92
    · rw [if_pos h]
      show quoL acc (92 :: c :: (escL v ++ 34 :: r)) = _
      rw [quoL_e _ _ _ _ rfl, quoL_esc r v, List.append_assoc]; rfl
    · rw [if_neg h]
      show quoL acc (c :: (escL v ++ 34 :: r)) = _
      rw [quoL_s _ _ _ (by omega) (by omega), quoL_esc r v, List.append_assoc]; rfl
theorem token_ne {l : List Int} (h : tokenB l = true) : ∃ c t, l = c :: t ∧ sgnB c = true ∧ ∀ x ∈ l, sgnB x = true := by
  obtain ⟨h1, h2, _⟩ := (tokenB_iff l).1 h
  rcases l with _ | ⟨c, t⟩
  · exact absurd rfl h2
  · exact ⟨c, t, rfl, h1 c List.mem_cons_self, h1⟩
theorem cutP_hit (p : Int) (l : List Int) : cutP p (p :: l) = some l := by rw [cutP_cons, if_pos rfl]
theorem cutP_miss {p c : Int} (l : List Int) (h : c ≠ p) : cutP p (c :: l) = none := by rw [cutP_cons, if_neg h]
theorem param_back {p : Pm} {r : List Int} (h1 : smallB p.1 = true) (hr : NoSgn r) : paramL (p.1 ++ [61] ++ valW p.2 ++ r) = (p.1, p.2, r, true) := by
  obtain ⟨p1, p2⟩ := p
  obtain ⟨ht, hl⟩ := (smallB_iff p1).1 h1
  simp only at *
  obtain ⟨_, _, _, _, hs⟩ := token_ne ht
  have e : p1 ++ [61] ++ valW p2 ++ r = p1 ++ 61 :: (valW p2 ++ r) := by simp
  obtain ⟨a1, a2⟩ := tok_app (r := 61 :: (valW p2 ++ r)) hs (.inr ⟨61, _, rfl, by decide⟩)
  unfold paramL
  rw [e, a1, a2, cutP_hit]
  simp only
  by_cases hv : tokenB p2 = true
  · have e2 : valW p2 = p2 := by unfold valW; rw [if_pos hv]
    obtain ⟨c, t, rfl, hc, hs2⟩ := token_ne hv
    obtain ⟨b1, b2⟩ := tok_app hs2 hr
    have hh : hasP 34 (valW (c :: t) ++ r) = false := by
      rw [e2]
      unfold hasP
      rw [List.cons_append, cutP_miss _ (sgn_not_blank hc).2.2.1]; rfl
    rw [hh, if_neg (by decide), e2, b1, b2, hl, hv]
  · have e2 : valW p2 = 34 :: (escL p2 ++ [34]) := by unfold valW; rw [if_neg hv]; rfl
    have hh : hasP 34 (valW p2 ++ r) = true := by
      rw [e2]
      unfold hasP
      rw [List.cons_append, cutP_hit]; rfl
    rw [hh, if_pos rfl, e2]
    have e3 : (34 :: (escL p2 ++ [34]) ++ r).drop 1 = escL p2 ++ 34 :: r := by simp
    rw [e3, quoL_esc r p2 [], List.nil_append, hl]; rfl
end Go.Proofs.Ytdnehnjcbdkgcaa
