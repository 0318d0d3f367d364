/- kind: Great, in plain terms. -/
import Derived.Test.YtdnehnjcbdkgcaaKLR
namespace Go.Proofs.Ytdnehnjcbdkgcaa
set_option linter.unusedVariables false
set_option linter.unusedSimpArgs false
open Go.RowKit Go.Shelf Go.Proofs.YtdnehnjcbdkgcaaW.PrintWords PKindReads

/-- A kind as an argument. -/
structure GOk (t s : List Int) (ps : List Pm) : Prop where
  tb : Bytes t
  sb : Bytes s
  tl : t.length ≤ 140737488351232
  sl : s.length ≤ 140737488351232
  n : ps.length ≤ 140737488351232
  p : ∀ p ∈ ps, (Bytes p.1 ∧ p.1.length ≤ 140737488351232) ∧ (Bytes p.2 ∧ p.2.length ≤ 140737488351232)
def parG (p : Pm) : Bool := decide (600 < p.1.length + p.2.length)
def greatB (t s : List Int) (ps : List Pm) : Bool := decide (40 < ps.length) || (decide (300 < t.length + s.length) || ps.any parG)
theorem greatP_ev (t s : List Int) (ps : List Pm) (hk : GOk t s ps) : ∀ m i : Nat, i + m = ps.length → Ev (fun k => posthornlaw08_Great.l0 k (i : Int) (St t) (St s) (ps.map toS)) ((ps.drop i).any parG) := by
  intro m
  have hn := hk.n
  induction m with
  | zero =>
    intro i hi
    refine Ev.step (by intro k; rw [posthornlaw08_Great.l0]) ?_
    rw [List.length_map]
    refine Ev.neg (by omega) ?_
    rw [List.drop_eq_nil_of_le (by omega)]
    exact Ev.done _
  | succ m ih =>
    intro i hi
    have hlt : i < ps.length := by omega
    have ih2 := ih (i + 1) (by omega)
    have hp := hk.p _ (List.getElem_mem hlt)
    refine Ev.step (by intro k; rw [posthornlaw08_Great.l0]) ?_
    rw [List.length_map]
    refine Ev.pos (by omega) ?_
    refine Ev.pos (by omega) ?_
    rw [rd_toS ps i hlt, List.drop_eq_getElem_cons hlt, List.any_cons]
    have e : wrap64 (((toS ps[i]).f0.size : Int) + ((toS ps[i]).f1.size : Int)) = ((ps[i].1.length + ps[i].2.length : Nat) : Int) := by
      simp only [toS]
      rw [St_size, St_size, wrap64_id _ (by omega) (by omega)]; omega
    by_cases h : 600 < ps[i].1.length + ps[i].2.length
    · refine Ev.pos (by rw [e]; omega) ?_
      rw [show parG ps[i] = true from decide_eq_true h]
      exact Ev.done _
    · refine Ev.neg (by rw [e]; omega) ?_
      rw [show parG ps[i] = false from decide_eq_false h, Bool.false_or, wrap64_id ((i : Int) + 1) (by omega) (by omega)]
      exact ih2
theorem great_any (t s : List Int) (ps : List Pm) (A : Option Addr) (c : Nat) (w : World) (hk : GOk t s ps) (hP : PRow w A ps) (hc : ps.length ≤ c) :
    Calls Try.prog 12 #[.agg #[.string (St t), .string (St s), .slice A ps.length c]] w fun e w' => e = .returned (.bool (greatB t s ps)) ∧ Below w.heap.size w w' := by
  have h1 := hk.tl
  have h2 := hk.sl
  have hev : Ev (fun k => posthornlaw08_Great.f k (St t) (St s) (ps.map toS)) (greatB t s ps) := by
    refine Ev.of (by funext k; rw [posthornlaw08_Great.f]) ?_
    rw [List.length_map]
    unfold greatB
    by_cases h : 40 < ps.length
    · refine Ev.pos (by omega) ?_
      rw [decide_eq_true h, Bool.true_or]
      refine Ev.step (by intro k; rw [posthornlaw08_Great.j0]) ?_
      exact Ev.pos rfl (Ev.done _)
    · refine Ev.neg (by omega) ?_
      rw [decide_eq_false h, Bool.false_or, St_size, St_size, wrap64_id _ (by omega) (by omega)]
      refine Ev.step (by intro k; rw [posthornlaw08_Great.j0]) ?_
      by_cases h3 : 300 < t.length + s.length
      · rw [decide_eq_true h3, Bool.true_or]
        exact Ev.pos (by rw [decide_eq_true]; omega) (Ev.done _)
      · rw [decide_eq_false h3, Bool.false_or]
        refine Ev.neg (by rw [decide_eq_false (by omega)]; decide) ?_
        simpa using greatP_ev t s ps hk ps.length 0 (by omega)
  obtain ⟨k, hk2⟩ := hev.get
  have h := posthornlaw08_Great.calls k (St t) (St s) A c (ps.map toS) _ w (by rw [List.length_map]; exact hP) (by rw [List.length_map]; exact hc) hk2
  rwa [List.length_map] at h
theorem GOk.kok {t s : List Int} {ps : List Pm} (h : GOk t s ps) (hg : greatB t s ps = false) : KOk t s ps := by
  unfold greatB at hg
  simp only [Bool.or_eq_false_iff, decide_eq_false_iff_not, Nat.not_lt, List.any_eq_false, parG, decide_eq_true_eq] at hg
  obtain ⟨h1, h2, h3⟩ := hg
  exact ⟨h.tb, h.sb, by omega, by omega, by omega, fun p hp => ⟨(h.p p hp).1.1, by have := h3 p hp; omega⟩, fun p hp => ⟨(h.p p hp).2.1, by have := h3 p hp; omega⟩⟩
end Go.Proofs.Ytdnehnjcbdkgcaa
