/- kind.Read: plain, and walked. -/
import Derived.Test.YtdnehnjcbdkgcaaK7
namespace Go.Proofs.Ytdnehnjcbdkgcaa
set_option linter.unusedVariables false
set_option linter.unusedSimpArgs false
open Go.RowKit Go.Shelf Go.Proofs.YtdnehnjcbdkgcaaW.PrintWords PKindReads

theorem paramL_ok {l : List Int} (h : Bytes l) : Bytes (paramL l).1 ∧ Bytes (paramL l).2.1 ∧ Bytes (paramL l).2.2.1 ∧ (paramL l).1.length ≤ l.length ∧ (paramL l).2.1.length ≤ l.length ∧ (paramL l).2.2.1.length ≤ l.length := by
  have hb : Bytes ([] : List Int) := fun x hx => by cases hx
  have hrb := restL_bytes h
  have hrl := restL_len l
  have htl := tokL_len l
  have htb := tokL_bytes h
  unfold paramL
  rcases hc : cutP 61 (restL l) with _ | q
  · exact ⟨hb, hb, hb, by simp, by simp, by simp⟩
  · have hqr := cutP_of hc
    have hqb : Bytes q := fun x hx => hrb x (by rw [hqr]; exact List.mem_cons_of_mem _ hx)
    have hql : q.length ≤ l.length := by rw [hqr, List.length_cons] at hrl; omega
    simp only
    by_cases hq : hasP 34 q = true
    · rw [if_pos hq]
      simp only
      rcases ho : quoL [] (q.drop 1) with _ | r
      · exact ⟨lowL_bytes htb, hb, hb, by rw [lowL_length]; exact htl, by simp [quoR], by simp [quoR]⟩
      · obtain ⟨b1, b2⟩ := quoL_bytes _ (q.drop 1) [] (Nat.le_refl _) (hqb.drop 1) hb r ho
        obtain ⟨l1, l2⟩ := quoL_len _ (q.drop 1) [] (Nat.le_refl _) r ho
        rw [List.length_drop] at l1 l2
        simp only [List.length_nil] at l1
        exact ⟨lowL_bytes htb, b1, b2, by rw [lowL_length]; exact htl, by simp only [quoR]; omega, by simp only [quoR]; omega⟩
    · rw [if_neg hq]
      have := tokL_len q
      have := restL_len q
      exact ⟨lowL_bytes htb, tokL_bytes hqb, restL_bytes hqb, by rw [lowL_length]; exact htl, by simp only; omega, by simp only; omega⟩
theorem blankL_bytes {l : List Int} (h : Bytes l) : Bytes (blankL l) := dropWhile_bytes h _
theorem blankL_len (l : List Int) : (blankL l).length ≤ l.length := (List.dropWhile_sublist _).length_le
/-- The parameters of a text. -/
def readP : Nat → List Int → List Pm → Option (List Pm)
  | 0, _, _ => none
  | f + 1, rest, ps =>
    if blankL rest = [] then some ps else
    match cutP 59 (blankL rest) with
    | none => none
    | some q => if blankL q = [] then some ps else
      if (paramL (blankL q)).2.2.2 = true then readP f (paramL (blankL q)).2.2.1 (ps ++ [((paramL (blankL q)).1, (paramL (blankL q)).2.1)]) else none
def readK (l : List Int) : Option (List Int × List Int × List Pm) :=
  match cutP 47 (restL (blankL l)) with
  | none => none
  | some q => match readP (q.length + 1) (restL q) [] with
    | none => none
    | some ps => if rightB (lowL (tokL (blankL l))) (lowL (tokL q)) ps = true then some (lowL (tokL (blankL l)), lowL (tokL q), ps) else none
/-! Own rows of parameters. -/
def pcells (p : Pm) : List Value := [.string (St p.1), .string (St p.2)]
def PO (w : World) (base : Nat) (v : Value) (ps : List Pm) : Prop := w.ownsRow base 42 2 v ps.length (ps.flatMap pcells)
theorem PO.nil (w : World) (base : Nat) : PO w base (.slice none 0 0) [] := own_nil w base _ _
theorem pcells_len (p : Pm) : (pcells p).length = 2 := rfl
theorem reps_snoc {R : S42 → List Value → Prop} (hR : ∀ p, R (toS p) (pcells p)) (ps : List Pm) : Reps R 2 (ps.map toS) (ps.flatMap pcells) := by
  suffices h : ∀ n, n ≤ ps.length → Reps R 2 ((ps.take n).map toS) ((ps.take n).flatMap pcells) by
    have := h ps.length (Nat.le_refl _)
    rwa [List.take_length] at this
  intro n
  induction n with
  | zero => intro _; exact Reps.none R 2
  | succ n ih =>
    intro hn
    rw [take_succ_at ps n hn, List.map_append, List.flatMap_append]
    exact (ih (by omega)).snoc (by simpa using hR ps[n]) (by simp [pcells])
theorem PO.reads {w : World} {base : Nat} {v : Value} {ps : List Pm} (h : PO w base v ps) : ∃ A c, v = .slice A ps.length c ∧ ps.length ≤ c ∧ PRow w A ps := by
  have hR : Kd.R k42 42 w base (fun _ => True) v (ps.map toS) := by
    refine ⟨fun _ _ => trivial, ps.flatMap pcells, by rw [List.length_map]; exact h, reps_snoc (fun p => ?_) ps⟩
    exact k42_mkM w base _ (toS p)
  obtain ⟨A, c, h1, h2, h3⟩ := Kd.R_reads hR
  rw [List.length_map] at h1 h2 h3
  exact ⟨A, c, h1, h2, h3⟩
theorem PO.below {w w1 : World} {base : Nat} {v : Value} {ps : List Pm} (h : PO w base v ps) (hb : Below w.heap.size w w1) : PO w1 base v ps := pw_own_below h hb
theorem PO.snoc {w : World} {base : Nat} {v : Value} {ps : List Pm} {p : Pm} (h : w.ownsRow base 42 2 v (ps.length + 1) (ps.flatMap pcells ++ pcells p)) : PO w base v (ps ++ [p]) := by
  unfold PO
  rw [List.length_append, List.flatMap_append]
  simpa using h
theorem PO.alloc_ {w : World} {base : Nat} {v : Value} {ps : List Pm} (h : PO w base v ps) (o : Obj) : PO (w.alloc o) base v ps := h.below ((Below.refl _ _).alloc (Nat.le_refl _) o)
theorem PO.ne_new {w : World} {base : Nat} {v : Value} {ps : List Pm} (h : PO w base v ps) : some w.heap.size ≠ v.ownBlock := fun e => by
  have := own_lt h _ e.symm
  omega
theorem pcells_one (p : Pm) : ∀ u ∈ pcells p, u.oneCell' = true := by
  intro u hu
  simp only [pcells, List.mem_cons, List.not_mem_nil, or_false] at hu
  rcases hu with rfl | rfl <;> rfl
theorem infoParam : (Try.prog.info? 42).map (fun i => (i.zero, i.size, i.bytes)) = some (some (.agg #[.string ⟨#[]⟩, .string ⟨#[]⟩]), 2, 32) := by kernel_rfl
end Go.Proofs.Ytdnehnjcbdkgcaa
