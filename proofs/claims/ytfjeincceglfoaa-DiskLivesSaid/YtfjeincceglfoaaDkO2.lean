/- Arguments of ops, opened, with the bound of their numbers. -/
import Derived.Test.YtfjeincceglfoaaDkO
namespace Go.Proofs.Ytfjeincceglfoaa
open Go.ChangeShapes Go.WideShapes Go.RowKit Go.Deep Go.Proofs.YtfjeincceglfoaaW.PrintWords
def OpV.OkN (o : OpV) : Prop := o.Ok ∧ o.n ≤ 9223372036854775807
theorem wf_i64 {n : Int} (h : (Lit.int .i64 n).wf = true) : n ≤ 9223372036854775807 := by
  simp only [Lit.wf, Bool.and_eq_true, decide_eq_true_eq] at h
  exact h.2
theorem open_ops2 {H : Type} {enc : TypeId × Value → H} {W : World} {base : Nat} {v : Value} {d : DataW H} {p : List MemPlace} (hv : Value.okWide Try.prog W .any base 22 v)
    (h : DataW.Trod enc Try.prog W 0 (fun _ => true) true 22 v d p) :
    ∃ (A : Option Addr) (ops : List OpV) (c : Nat), v = .slice A ops.length c ∧ OpsAt W A ops ∧ (∀ o ∈ ops, o.OkN) ∧ ops.length ≤ 9223372036854775807 := by
  obtain ⟨a0, len0, cap0, rfl⟩ := okWide_slice Try.underlying22 hv
  obtain ⟨fuel, hf⟩ := h
  rcases open_slice_fields Try.underlying22 Try.underlying36 (by kernel_rfl) (by kernel_rfl) hf with ⟨hc, _⟩ | ⟨a, len, cap, m, D, Pl, hc, _, hl, hm, hmm, _, hi⟩
  · simp [Value.cells] at hc
    obtain ⟨rfl, rfl, rfl⟩ := hc
    exact ⟨none, [], 0, rfl, .inl rfl, fun o ho => (List.not_mem_nil ho).elim, by simp⟩
  · simp [Value.cells] at hc
    obtain ⟨rfl, rfl, rfl⟩ := hc
    simp only [if_true] at hmm
    have each : ∀ i, i < len0 → ∃ o : OpV, o.OkN ∧ ∀ j u, o.cells[j]? = some u → W.cell? (a.add (i * 7 + j)) = some u := by
      intro i hi0
      obtain ⟨ys, n, _, _, _, hF⟩ := hi i (by omega)
      obtain ⟨v0, y0, c0, _, t0⟩ := hF 0 _ rfl
      obtain ⟨v1, y1, c1, _, t1⟩ := hF 1 _ rfl
      obtain ⟨v2, y2, c2, _, t2⟩ := hF 2 _ rfl
      obtain ⟨v3, y3, c3, _, t3⟩ := hF 3 _ rfl
      obtain ⟨v4, y4, c4, _, t4⟩ := hF 4 _ rfl
      obtain ⟨v5, y5, c5, _, t5⟩ := hF 5 _ rfl
      obtain ⟨v6, y6, c6, _, t6⟩ := hF 6 _ rfl
      obtain ⟨n0, e0, _, _⟩ := DataW.trod_int Try.underlying3 t0
      obtain ⟨n1, e1, _, _⟩ := DataW.trod_int Try.underlying3 t1
      obtain ⟨n2, e2, _, w2⟩ := DataW.trod_int Try.underlying3 t2
      obtain ⟨n3, e3, _, _⟩ := DataW.trod_int Try.underlying3 t3
      obtain ⟨n4, e4, _, w4⟩ := DataW.trod_int Try.underlying5 t4
      obtain ⟨n5, e5, _⟩ := DataW.trod_bool Try.underlying4 t5
      obtain ⟨n6, e6, _, _⟩ := DataW.trod_int Try.underlying26 t6
      simp only [List.cons.injEq, and_true] at e0 e1 e2 e3 e4 e5 e6
      subst e0; subst e1; subst e2; subst e3; subst e4; subst e5; subst e6
      refine ⟨⟨n0, n1, n2, n3, n4, n5, n6⟩, ⟨wf_byte w4, wf_i64 w2⟩, ?_⟩
      intro j u hu
      rcases j with _ | _ | _ | _ | _ | _ | _ | j
      · cases hu; exact c0
      · cases hu; exact c1
      · cases hu; exact c2
      · cases hu; exact c3
      · cases hu; exact c4
      · cases hu; exact c5
      · cases hu; exact c6
      · simp [OpV.cells] at hu
    obtain ⟨f, hf2⟩ := choose_lt each
    refine ⟨some a, (List.range len0).map f, cap0, by simp, ?_, ?_, by unfold maxLen at hm; simp; omega⟩
    · rcases Nat.eq_zero_or_pos len0 with h0 | h0
      · subst h0; exact .inl rfl
      · obtain ⟨b, o, spot⟩ := a
        have h1 := (hf2 0 h0).2 0 _ rfl
        have hspot : spot = none := by simpa [Addr.add] using World.cell?_spot h1
        subst hspot
        refine .inr ⟨b, o, rfl, World.block_lt_of_cell? _ _ h1, fun i hi j u hu => ?_⟩
        have hi' : i < len0 := by simpa using hi
        have h2 := (hf2 i hi').2 j u (by simpa using hu)
        rw [Nat.add_assoc]
        simpa [Addr.add_lit] using h2
    · intro o ho
      obtain ⟨i, hi, rfl⟩ := List.mem_map.1 ho
      exact (hf2 i (List.mem_range.1 hi)).1
end Go.Proofs.Ytfjeincceglfoaa
