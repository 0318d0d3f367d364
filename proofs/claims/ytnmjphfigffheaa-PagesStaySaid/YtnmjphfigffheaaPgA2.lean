/- pages: a law's store; its calls, with what they leave alone. -/
import Derived.Test.YtnmjphfigffheaaPgA
namespace Go.Proofs.Ytnmjphfigffheaa
set_option maxRecDepth 100000
set_option linter.unusedVariables false
set_option linter.unusedSimpArgs false
open Go.RowKit Go.Proofs.YtnmjphfigffheaaW.PrintWords Go.Proofs.YtnmjphfigffheaaW.PrintLast

/-- The blocks that were made behind w1 are as they were. -/
def Keeps (w1 w w' : World) : Prop := ∀ i, w1.heap.size ≤ i → i < w.heap.size → w'.heap[i]? = w.heap[i]?
theorem Keeps.cell {w1 w w' : World} (h : Keeps w1 w w') {g : Nat} (h1 : w1.heap.size ≤ g) {cs : Array Value} {t : TypeId} {fr : Nat × Nat} (hb : w.heap[g]? = some (.cells cs t fr)) : w'.heap[g]? = some (.cells cs t fr) := (h g h1 (blk_lt hb)).trans hb
theorem Keeps.of {w1 w w' : World} {fs : Nat → Prop} (hf : Frame fs w w') (h : ∀ i, fs i → i < w1.heap.size) : Keeps w1 w w' := fun i h1 h2 => hf.block i h2 (fun e => by have := h i e; omega)
theorem lp_write2 {w0 w1 w : World} {b : Nat} {D : DS} {p : Nat} {T : Int} {R : List Int} {B : Bool} (h : LP w0 w1 b D p T R B) (hB : Below w1.heap.size w1 w) (n k : Int) (A : Option Addr) (m c : Nat) (xs : List Int) (hr : ReadsInt w .u8 A m xs) (hx : Bytes xs) (hk : 0 ≤ k ∧ k ≤ 255) (hq : D.after ≤ 9223372036854775807 ∧ D.pend.length ≤ 999998000) {r : Int × DS × Bool} (hv : swriteV D T B n k xs = r) :
    Calls Try.prog 11 #[.pointer (some ⟨p, 0, none⟩), .int .i64 n, .int .u8 k, .slice A m c] w fun e w' => e = .returned (.int .i64 r.1) ∧ LP w0 w' b r.2.1 p T R r.2.2 ∧ Keeps w1 w w' := by
  subst hv
  obtain rfl : xs.length = m := hr.1
  obtain ⟨fs, h1, h2, h3, h4, h5⟩ := h
  have hp := h2.lt
  have hl := h1.lt
  refine (swrite_yes p b D T R B fs n k A c xs w (h2.below hB) (h1.below hB) hr hx hk.1 hk.2 hq.1 (by omega)).mono ?_
  rintro e w2 ⟨rfl, hE⟩
  refine ⟨rfl, LP.of h3 h4 (below_then h5 h5.size hB) hE, ?_⟩
  obtain ⟨_, _, _, hF, _⟩ := hE
  exact Keeps.of hF (fun i hi => hi.elim (hl i) (fun e => by rw [e]; exact hp))
theorem lp_commit2 {w0 w1 w : World} {b : Nat} {D : DS} {p : Nat} {T : Int} {R : List Int} {B : Bool} (h : LP w0 w1 b D p T R B) (hB : Below w1.heap.size w1 w) (A : Option Addr) (m c : Nat) (xs : List Int) (hr : ReadsInt w .u8 A m xs) (hx : Bytes xs) (hA : 0 < m → ∀ ad, A = some ad → ad.block < w0.heap.size ∨ w1.heap.size ≤ ad.block) (hq : D.after ≤ 9223372036854775807 ∧ D.pend.length ≤ 999998000) {r : CR} (hv : scommitV D T R B xs = r) :
    Calls Try.prog 12 #[.pointer (some ⟨p, 0, none⟩), .slice A m c] w fun e w' => e = .returned (.int .i64 r.e) ∧ LP w0 w' b r.D p r.T r.R r.B ∧ Keeps w1 w w' := by
  subst hv
  obtain rfl : xs.length = m := hr.1
  obtain ⟨fs, h1, h2, h3, h4, h5⟩ := h
  have hp := h2.lt
  have hl := h1.lt
  refine (scommit_yes p b D T R B fs A c xs w (h2.below hB) (h1.below hB) hr hx (fun h0 ad e => ?_) hq.1 hq.2).mono ?_
  · refine ⟨fun hf => ?_, fun e9 => ?_⟩
    · have := h3 _ hf
      have := hl _ hf
      exact (hA h0 ad e).elim (fun h => by omega) (fun h => by omega)
    · exact (hA h0 ad e).elim (fun h => by omega) (fun h => by omega)
  · rintro e w2 ⟨rfl, hE⟩
    refine ⟨rfl, LP.of h3 h4 (below_then h5 h5.size hB) hE, ?_⟩
    obtain ⟨_, _, _, hF, _⟩ := hE
    exact Keeps.of hF (fun i hi => hi.elim (hl i) (fun e => by rw [e]; exact hp))
theorem lp_fail2 {w0 w1 w : World} {b : Nat} {D : DS} {p : Nat} {T : Int} {R : List Int} {B : Bool} (h : LP w0 w1 b D p T R B) (hB : Below w1.heap.size w1 w) (a e0 : Int) :
    Calls Try.prog 13 #[.pointer (some ⟨b, 0, none⟩), .int .i64 a, .int .i64 e0] w fun e w' => e = .returned (.int .i64 (failV D a e0).1) ∧ LP w0 w' b (failV D a e0).2 p T R B ∧ Keeps w1 w w' := by
  obtain ⟨fs, h1, h2, h3, h4, h5⟩ := h
  have hl := h1.lt
  have h5' := below_then h5 h5.size hB
  refine (fail_any b D fs a e0 w (h1.below hB)).mono ?_
  rintro e w2 ⟨rfl, g1, g2⟩
  exact ⟨rfl, ⟨fs, g1, (h2.below hB).eff g2 (fun _ h => .inl h) (fun _ h => .inl h), h3, h4, h5'.trans (g2.below h3 h5'.size)⟩, Keeps.of g2 hl⟩
theorem ld_crash2 {w0 w1 w : World} {b : Nat} {D : DS} (h : LD w0 w1 b D) (hB : Below w1.heap.size w1 w) (k t : Int) :
    Calls Try.prog 14 #[.pointer (some ⟨b, 0, none⟩), .int .i64 k, .int .i64 t] w fun e w' => e = .returned (.int .i64 0) ∧ LD w0 w' b (crashV D k t) ∧ Keeps w1 w w' := by
  obtain ⟨fs, h1, h2, h3⟩ := h
  have hl := h1.lt
  have h3' := below_then h3 h3.size hB
  refine (crash_any b D fs k t w (h1.below hB)).mono ?_
  rintro e w2 ⟨rfl, gs, g1, g2, g3⟩
  exact ⟨rfl, ⟨gs, g1, fun i hi => (g3 i hi).elim (h2 i) (fun h9 => Nat.le_trans h3'.size h9), h3'.trans (g2.below h2 h3'.size)⟩, Keeps.of g2 hl⟩
end Go.Proofs.Ytnmjphfigffheaa
