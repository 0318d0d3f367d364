/- disk: words for the document's Crash. -/
import Derived.Test.YtlmdghafiadgjaaRdC
namespace Go.Proofs.Ytlmdghafiadgjaa
set_option linter.unusedVariables false
set_option linter.unusedSimpArgs false
open Go.RowKit Go.Proofs.YtlmdghafiadgjaaW.PrintWords Go.Proofs.YtlmdghafiadgjaaW.PrintLast

theorem RdV.sured_new {w : World} {x B : Nat} {vs vp v1 : Value} {es ep : List En} {R : RS} {gs hs : Nat → Prop} {E : En} (h : RdV w x vs vp es ep R gs) (hA : v1.ownBlock = vs.ownBlock ∨ ∃ b, v1.ownBlock = some b ∧ w.heap.size ≤ b)
    (hgs : ∀ i, gs i → hs i ∨ B ≤ i) (hB : B ≤ w.heap.size) (hE : ∀ j, own E = some j → hs j ∨ B ≤ j) : ∀ i, (i = x ∨ v1.ownBlock = some i ∨ vp.ownBlock = some i ∨ ∃ e ∈ (es ++ [E]) ++ ep, e.v.ownBlock = some i) → hs i ∨ B ≤ i := by
  rintro j (rfl | hj | hj | ⟨e, he, hj⟩)
  · exact hgs _ h.self
  · rcases hA with ha | ⟨b, ha, hb⟩
    · exact hgs _ ((h.foot j).2 (.inr (.inl (ha ▸ hj))))
    · rw [ha] at hj
      injection hj with hj
      exact .inr (by omega)
  · exact hgs _ ((h.foot j).2 (.inr (.inr (.inl hj))))
  · have hm : e = E ∨ e ∈ es ++ ep := by
      simp only [List.mem_append, List.mem_singleton] at he ⊢
      rcases he with (he | he) | he
      · exact .inr (.inl he)
      · exact .inl he
      · exact .inr (.inr he)
    rcases hm with rfl | he
    · exact hE j hj
    · exact hgs _ ((h.foot j).2 (.inr (.inr (.inr ⟨e, he, hj⟩))))
/-- A row's byte. -/
theorem row_byte {w : World} {base g n c : Nat} {xs : List Int} (h : ORow .u8 5 w base (.slice (some ⟨g, 0, none⟩) n c) xs) (j : Nat) (hj : j < xs.length) : w.cell? ⟨g, j, none⟩ = some (.int .u8 (rd xs (j : Int))) ∧ w.frozen? ⟨g, j, none⟩ = false := by
  have e : (⟨g, 0, none⟩ : Addr).add j = ⟨g, j, none⟩ := by unfold Addr.add; split <;> simp_all
  have h1 := World.ownsRow.cells h (g := g) rfl j (.int .u8 (rd xs (j : Int))) (by rw [rd_lt xs j hj]; simp [nums, hj])
  rw [e] at h1
  refine ⟨h1, ?_⟩
  rcases h.2 with ⟨h2, _⟩ | ⟨g', cap, cur, h2, _, hh, _⟩
  · cases h2
  · injection h2 with e1 e2 e3
    injection e1 with e1
    injection e1 with e1 _ _
    subst e1
    exact blk_frozen hh j
theorem row_put {w : World} {base g n c : Nat} {xs : List Int} (h : ORow .u8 5 w base (.slice (some ⟨g, 0, none⟩) n c) xs) (hn : n = xs.length) (p : Nat) (u : Int) : ORow .u8 5 (w.setCell ⟨g, p, none⟩ (.int .u8 u)) base (.slice (some ⟨g, 0, none⟩) n c) (xs.set p u) := by
  subst hn
  have h2 := own_put h (p : Int) u
  rw [Int.toNat_natCast] at h2
  unfold ORow
  rw [List.length_set] at h2 ⊢
  exact h2
end Go.Proofs.Ytlmdghafiadgjaa
