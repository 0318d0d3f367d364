/- kind, plain: what is written is read as it was, with blanks about it. -/
import Derived.Test.YtdnehnjcbdkgcaaKP1
namespace Go.Proofs.Ytdnehnjcbdkgcaa
set_option linter.unusedVariables false
set_option linter.unusedSimpArgs false

theorem blankL_pad {pad : List Int} (h : ∀ c ∈ pad, blkC c = true) (r : List Int) : blankL (pad ++ r) = blankL r := by
  unfold blankL; rw [List.dropWhile_append_of_pos h]
theorem blankL_all {pad : List Int} (h : ∀ c ∈ pad, blkC c = true) : blankL pad = [] := by
  have h2 := blankL_pad h []
  rw [List.append_nil] at h2
  exact h2
theorem blankL_hit {c : Int} (t : List Int) (h : blkC c = false) : blankL (c :: t) = c :: t := by
  unfold blankL; rw [List.dropWhile_cons_of_neg (by rw [h]; decide)]
theorem blk_sgn {c : Int} (h : sgnB c = true) : blkC c = false := by
  have := sgn_not_blank h
  unfold blkC
  rw [beq_eq_false_iff_ne.mpr (show c ≠ 32 by omega), beq_eq_false_iff_ne.mpr (show c ≠ 9 by omega)]; rfl
/-- What may stand behind a kind. -/
structure TailOk (r : List Int) : Prop where
  no : NoSgn r
  ends : blankL r = [] ∨ ∃ q, blankL r = 59 :: q ∧ blankL q = []
theorem tail_none : TailOk [] := ⟨.inl rfl, .inl rfl⟩
theorem tail_pad {pad : List Int} (h : ∀ c ∈ pad, blkC c = true) : TailOk (pad ++ 59 :: pad) := by
  refine ⟨.inr ?_, .inr ⟨pad, ?_, blankL_all h⟩⟩
  · rcases pad with _ | ⟨c, t⟩
    · exact ⟨59, [], rfl, by decide⟩
    · refine ⟨c, t ++ 59 :: c :: t, rfl, ?_⟩
      have := h c List.mem_cons_self
      rcases hs : sgnB c with _ | _
      · rfl
      · rw [blk_sgn hs] at this; cases this
  · rw [blankL_pad h, blankL_hit _ (by decide)]
theorem noSgn_pars {r : List Int} (h : NoSgn r) (ps : List Pm) : NoSgn (ps.flatMap parW ++ r) := by
  rcases ps with _ | ⟨p, ps⟩
  · exact h
  · exact .inr ⟨59, _, rfl, by decide⟩
theorem readP_back {r : List Int} (hr : TailOk r) : ∀ (qs : List Pm) (f : Nat) (acc : List Pm), qs.length < f → (∀ q ∈ qs, smallB q.1 = true) → readP f (qs.flatMap parW ++ r) acc = some (acc ++ qs)
  | [], f, acc, hf, _ => by
    obtain ⟨f, rfl⟩ : ∃ g, f = g + 1 := ⟨f - 1, by simp at hf; omega⟩
    rw [readP, List.flatMap_nil, List.nil_append, List.append_nil]
    rcases hr.ends with h | ⟨q, h, h2⟩
    · rw [if_pos h]
    · rw [if_neg (by rw [h]; simp), h, cutP_hit]
      simp only
      rw [if_pos h2]
  | p :: qs, f, acc, hf, hq => by
    obtain ⟨f, rfl⟩ : ∃ g, f = g + 1 := ⟨f - 1, by simp at hf; omega⟩
    have hp := hq p List.mem_cons_self
    obtain ⟨ht, _⟩ := (smallB_iff p.1).1 hp
    obtain ⟨c, t, hc, hs, _⟩ := token_ne ht
    have e : (p :: qs).flatMap parW ++ r = 59 :: 32 :: (p.1 ++ [61] ++ valW p.2 ++ (qs.flatMap parW ++ r)) := by
      simp [parW]
    have e2 : blankL (32 :: (p.1 ++ [61] ++ valW p.2 ++ (qs.flatMap parW ++ r))) = p.1 ++ [61] ++ valW p.2 ++ (qs.flatMap parW ++ r) := by
      rw [show (32 : Int) :: (p.1 ++ [61] ++ valW p.2 ++ (qs.flatMap parW ++ r)) = [32] ++ (p.1 ++ [61] ++ valW p.2 ++ (qs.flatMap parW ++ r)) from rfl, blankL_pad (by intro c hc; rw [List.mem_singleton.1 hc]; rfl), hc]
      exact blankL_hit _ (blk_sgn hs)
    rw [readP, e, blankL_hit _ (by decide), if_neg (by simp), cutP_hit]
    simp only
    rw [e2, if_neg (by rw [hc]; simp), param_back hp (noSgn_pars hr.no qs), if_pos rfl, readP_back hr qs f _ (by simp at hf; omega) (fun q hq' => hq q (List.mem_cons_of_mem _ hq')), List.append_assoc]
    rfl
theorem pars_len (ps : List Pm) : ps.length ≤ (ps.flatMap parW).length := by
  induction ps with
  | nil => simp
  | cons p ps ih =>
    simp only [List.flatMap_cons, List.length_append, List.length_cons, parW] at ih ⊢
    omega
theorem readK_back {t s : List Int} {ps : List Pm} {pad r : List Int} (hR : rightB t s ps = true) (hpad : ∀ c ∈ pad, blkC c = true) (hr : TailOk r) : readK (pad ++ (writeL t s ps ++ r)) = some (t, s, ps) := by
  have h := right_is hR
  obtain ⟨ht, htl⟩ := (smallB_iff t).1 h.t
  obtain ⟨hs, hsl⟩ := (smallB_iff s).1 h.s
  obtain ⟨c, t', hc, hc1, hts⟩ := token_ne ht
  obtain ⟨_, _, _, _, hss⟩ := token_ne hs
  have e : writeL t s ps ++ r = t ++ 47 :: (s ++ (ps.flatMap parW ++ r)) := by simp [writeL]
  have eb : blankL (pad ++ (writeL t s ps ++ r)) = t ++ 47 :: (s ++ (ps.flatMap parW ++ r)) := by
    rw [blankL_pad hpad, e, hc]
    exact blankL_hit _ (blk_sgn hc1)
  obtain ⟨a1, a2⟩ := tok_app (r := 47 :: (s ++ (ps.flatMap parW ++ r))) hts (.inr ⟨47, _, rfl, by decide⟩)
  obtain ⟨b1, b2⟩ := tok_app (r := ps.flatMap parW ++ r) hss (noSgn_pars hr.no ps)
  unfold readK
  rw [eb, a1, a2, cutP_hit]
  simp only
  rw [b1, b2, readP_back hr ps _ [] (by have := pars_len ps; simp only [List.length_append]; omega) (fun q hq => (h.p q hq).1)]
  simp only [List.nil_append]
  rw [htl, hsl, if_pos hR]
theorem readK_right {l t s : List Int} {ps : List Pm} (h : readK l = some (t, s, ps)) : rightB t s ps = true := by
  rw [readK_eq] at h
  rcases hr : readR l with _ | qs
  · rw [hr] at h; cases h
  · rw [hr] at h
    simp only at h
    split at h
    · rename_i h2
      injection h with h
      injection h with h3 h
      injection h with h4 h5
      rw [← h3, ← h4, ← h5]; exact h2
    · cases h
end Go.Proofs.Ytdnehnjcbdkgcaa
