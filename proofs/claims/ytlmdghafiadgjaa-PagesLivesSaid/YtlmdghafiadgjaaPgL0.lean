/- pages: the program's store and the document's, side by side. -/
import Derived.Test.YtlmdghafiadgjaaPgR10
import Derived.Test.YtlmdghafiadgjaaPgAr
namespace Go.Proofs.Ytlmdghafiadgjaa
set_option maxRecDepth 100000
set_option linter.unusedVariables false
set_option linter.unusedSimpArgs false
open Go.RowKit Go.Proofs.YtlmdghafiadgjaaW.PrintWords Go.Proofs.YtlmdghafiadgjaaW.PrintLast

/-- The block of the root of a store in block p. -/
def rootB (w : World) (p i : Nat) : Prop := ∃ c t fr, w.heap[p]? = some (.cells c t fr) ∧ (c.getD 2 undef).ownBlock = some i
theorem rootB.keep {w w' : World} {p i : Nat} (h : w'.heap[p]? = w.heap[p]?) : rootB w' p i ↔ rootB w p i := by unfold rootB; rw [h]
theorem StoreAt.root_ {w : World} {p b : Nat} {T : Int} {R : List Int} {B : Bool} {fs : Nat → Prop} (h : StoreAt w p b T R B fs) : ∀ i, rootB w p i → i < w.heap.size := by
  obtain ⟨v, h1, h2, _⟩ := h
  rintro i ⟨c, t, fr, hc, hi⟩
  rw [h1] at hc
  injection hc with hc
  injection hc with g1 g2 g3
  subst g1
  exact own_lt h2 i hi
theorem RStoreAt.root_ {w : World} {p b : Nat} {T : Int} {R : List Int} {B : Bool} {fs : Nat → Prop} (h : RStoreAt w p b T R B fs) : ∀ i, rootB w p i → i < w.heap.size := by
  obtain ⟨v, h1, h2, _⟩ := h
  rintro i ⟨c, t, fr, hc, hi⟩
  rw [h1] at hc
  injection hc with hc
  injection hc with g1 g2 g3
  subst g1
  exact own_lt h2 i hi
theorem StoreAt.keep_ {w w' : World} {p b : Nat} {T : Int} {R : List Int} {B : Bool} {fs : Nat → Prop} (h : StoreAt w p b T R B fs) (hk : ∀ i, (i = p ∨ rootB w p i) → w'.heap[i]? = w.heap[i]?) : StoreAt w' p b T R B fs := by
  obtain ⟨v, h1, h2, h3, h4⟩ := h
  exact ⟨v, (hk p (.inl rfl)).trans h1, own_keep h2 (fun g hg => hk g (.inr ⟨_, _, _, h1, hg⟩)), h3, h4⟩
theorem RStoreAt.keep_ {w w' : World} {p b : Nat} {T : Int} {R : List Int} {B : Bool} {fs : Nat → Prop} (h : RStoreAt w p b T R B fs) (hk : ∀ i, (i = p ∨ rootB w p i) → w'.heap[i]? = w.heap[i]?) : RStoreAt w' p b T R B fs := by
  obtain ⟨v, h1, h2, h3, h4⟩ := h
  exact ⟨v, (hk p (.inl rfl)).trans h1, own_keep h2 (fun g hg => hk g (.inr ⟨_, _, _, h1, hg⟩)), h3, h4⟩
/-- What is known of a store. -/
structure SV where
  T : Int
  R : List Int
  B : Bool
def ProgB (w : World) (fs : Nat → Prop) (p : Nat) : Nat → Prop := fun i => fs i ∨ i = p ∨ rootB w p i
/-- Both stores, and a block that is none of theirs. -/
structure PLx (w0 w : World) (b : Nat) (D : DS) (fs : Nat → Prop) (p : Nat) (s : SV) (x : Nat) (R : RS) (gs : Nat → Prop) (y : Nat) (t : SV) (ko : List (Nat × Obj)) : Prop where
  d : DiskAt w b D fs
  st : StoreAt w p b s.T s.R s.B fs
  r : RefAt w x R gs
  rs : RStoreAt w y x t.T t.R t.B gs
  sep : ∀ i, ProgB w fs p i → ¬ ProgB w gs y i
  lo : ∀ i, (ProgB w fs p i ∨ ProgB w gs y i) → w0.heap.size ≤ i
  ko : ∀ o ∈ ko, w.heap[o.1]? = some o.2 ∧ ¬ ProgB w fs p o.1 ∧ ¬ ProgB w gs y o.1
  B : Below w0.heap.size w0 w
section
variable {w0 w w' : World} {b p x y : Nat} {D : DS} {R : RS} {fs gs : Nat → Prop} {s t : SV} {ko : List (Nat × Obj)}
theorem PLx.lt (h : PLx w0 w b D fs p s x R gs y t ko) : ∀ i, (ProgB w fs p i ∨ ProgB w gs y i) → i < w.heap.size := by
  intro i hi
  rcases hi with (hi | rfl | hi) | (hi | rfl | hi)
  · exact h.d.lt i hi
  · exact h.st.lt
  · exact h.st.root_ i hi
  · exact h.r.lt i hi
  · exact h.rs.lt
  · exact h.rs.root_ i hi
theorem PLx.keep (h : PLx w0 w b D fs p s x R gs y t ko) (hB : Below w0.heap.size w0 w') (hk : ∀ i, i < w.heap.size → w'.heap[i]? = w.heap[i]?) : PLx w0 w' b D fs p s x R gs y t ko := by
  have hp := hk p h.st.lt
  have hy := hk y h.rs.lt
  have e1 : ∀ i, ProgB w' fs p i ↔ ProgB w fs p i := fun i => by unfold ProgB; rw [rootB.keep hp]
  have e2 : ∀ i, ProgB w' gs y i ↔ ProgB w gs y i := fun i => by unfold ProgB; rw [rootB.keep hy]
  refine ⟨h.d.keep (fun i hi => hk i (h.d.lt i hi)), h.st.keep_ (fun i hi => hk i (h.lt i (.inl (.inr hi)))), h.r.keep (fun i hi => hk i (h.r.lt i hi)), h.rs.keep_ (fun i hi => hk i (h.lt i (.inr (.inr hi)))), fun i hi => by rw [e2]; exact h.sep i ((e1 i).1 hi), fun i hi => h.lo i (hi.imp (e1 i).1 (e2 i).1), fun o ho => ?_, hB⟩
  obtain ⟨k1, k2, k3⟩ := h.ko o ho
  exact ⟨(hk o.1 (blk_lt k1)).trans k1, by rw [e1]; exact k2, by rw [e2]; exact k3⟩
theorem PLx.below (h : PLx w0 w b D fs p s x R gs y t ko) (hB : Below w.heap.size w w') : PLx w0 w' b D fs p s x R gs y t ko :=
  h.keep (below_then h.B h.B.size hB) (fun i hi => hB.block i hi)
theorem PLx.drew (h : PLx w0 w b D fs p s x R gs y t ko) : PLx w0 w.drew b D fs p s x R gs y t ko := h.keep (b_drew h.B) (fun _ _ => rfl)
theorem PLx.new (h : PLx w0 w b D fs p s x R gs y t []) (o : Obj) : PLx w0 (w.alloc o) b D fs p s x R gs y t [(w.heap.size, o)] := by
  have h1 := h.below (below_first o)
  have e1 : ¬ ProgB (w.alloc o) fs p w.heap.size := fun e => by
    have hp : (w.alloc o).heap[p]? = w.heap[p]? := (below_first o).block p h.st.lt
    have := h.lt w.heap.size (.inl (by unfold ProgB at e ⊢; rw [rootB.keep hp] at e; exact e))
    omega
  have e2 : ¬ ProgB (w.alloc o) gs y w.heap.size := fun e => by
    have hp : (w.alloc o).heap[y]? = w.heap[y]? := (below_first o).block y h.rs.lt
    have := h.lt w.heap.size (.inr (by unfold ProgB at e ⊢; rw [rootB.keep hp] at e; exact e))
    omega
  exact ⟨h1.d, h1.st, h1.r, h1.rs, h1.sep, h1.lo, fun q hq => by rw [List.mem_singleton.1 hq]; exact ⟨heap_alloc_last w o, e1, e2⟩, h1.B⟩
theorem PLx.forget (h : PLx w0 w b D fs p s x R gs y t ko) : PLx w0 w b D fs p s x R gs y t [] := ⟨h.d, h.st, h.r, h.rs, h.sep, h.lo, fun o ho => (by cases ho), h.B⟩
/-- The program's store has done something. -/
theorem PLx.prog (h : PLx w0 w b D fs p s x R gs y t ko) {D' : DS} {T' : Int} {r' : List Int} {B' : Bool} (e : EffS w p b fs D' T' r' B' w') : ∃ fs', PLx w0 w' b D' fs' p ⟨T', r', B'⟩ x R gs y t ko := by
  obtain ⟨fs', e1, e2, e3, e4, e5⟩ := e
  have hn : ∀ i, i < w.heap.size → ¬ ProgB w fs p i → w'.heap[i]? = w.heap[i]? := fun i hi hp => e3.block i hi (fun h9 => hp (h9.imp id .inl))
  have hg : ∀ i, ProgB w gs y i → w'.heap[i]? = w.heap[i]? := fun i hi => hn i (h.lt i (.inr hi)) (fun h9 => h.sep i h9 hi)
  have hy := hg y (.inr (.inl rfl))
  have hsz := h.B.size
  have f1 : ∀ i, ProgB w' fs' p i → ProgB w fs p i ∨ w.heap.size ≤ i := by
    rintro i (hi | rfl | ⟨c, t2, fr, hc, hi⟩)
    · exact (e4 i hi).imp .inl id
    · exact .inl (.inr (.inl rfl))
    · exact (e5 c t2 fr hc i hi).elim .inr (fun ⟨d, t', fr', hd, hg'⟩ => .inl (.inr (.inr ⟨d, t', fr', hd, hg'⟩)))
  have f2 : ∀ i, ProgB w' gs y i ↔ ProgB w gs y i := fun i => by unfold ProgB; rw [rootB.keep hy]
  refine ⟨fs', e1, e2, h.r.keep (fun i hi => hg i (.inl hi)), h.rs.keep_ (fun i hi => hg i (.inr hi)), fun i hi => ?_, fun i hi => ?_, fun o ho => ?_, ?_⟩
  · rw [f2]
    exact fun h9 => (f1 i hi).elim (fun h8 => h.sep i h8 h9) (fun h8 => by have := h.lt i (.inr h9); omega)
  · exact hi.elim (fun h9 => (f1 i h9).elim (fun h8 => h.lo i (.inl h8)) (fun h8 => Nat.le_trans hsz h8)) (fun h9 => h.lo i (.inr ((f2 i).1 h9)))
  · obtain ⟨k1, k2, k3⟩ := h.ko o ho
    have hl := blk_lt k1
    exact ⟨(hn o.1 hl k2).trans k1, fun h9 => (f1 o.1 h9).elim k2 (fun h8 => by omega), by rw [f2]; exact k3⟩
  · exact h.B.trans (e3.below (fun i hi => h.lo i (.inl (hi.imp id .inl))) hsz)
/-- The document's store has done something. -/
theorem PLx.ref (h : PLx w0 w b D fs p s x R gs y t ko) {R' : RS} {T' : Int} {r' : List Int} {B' : Bool} (e : EffR w y x gs R' T' r' B' w') : ∃ gs', PLx w0 w' b D fs p s x R' gs' y ⟨T', r', B'⟩ ko := by
  obtain ⟨gs', e1, e2, e3, e4, e5⟩ := e
  have hn : ∀ i, i < w.heap.size → ¬ ProgB w gs y i → w'.heap[i]? = w.heap[i]? := fun i hi hp => e3.block i hi (fun h9 => hp (h9.imp id .inl))
  have hg : ∀ i, ProgB w fs p i → w'.heap[i]? = w.heap[i]? := fun i hi => hn i (h.lt i (.inl hi)) (fun h9 => h.sep i hi h9)
  have hy := hg p (.inr (.inl rfl))
  have hsz := h.B.size
  have f1 : ∀ i, ProgB w' gs' y i → ProgB w gs y i ∨ w.heap.size ≤ i := by
    rintro i (hi | rfl | ⟨c, t2, fr, hc, hi⟩)
    · exact (e4 i hi).imp .inl id
    · exact .inl (.inr (.inl rfl))
    · exact (e5 c t2 fr hc i hi).elim .inr (fun ⟨d, t', fr', hd, hg'⟩ => .inl (.inr (.inr ⟨d, t', fr', hd, hg'⟩)))
  have f2 : ∀ i, ProgB w' fs p i ↔ ProgB w fs p i := fun i => by unfold ProgB; rw [rootB.keep hy]
  refine ⟨gs', h.d.keep (fun i hi => hg i (.inl hi)), h.st.keep_ (fun i hi => hg i (.inr hi)), e1, e2, fun i hi h9 => ?_, fun i hi => ?_, fun o ho => ?_, ?_⟩
  · exact (f1 i h9).elim (fun h8 => h.sep i ((f2 i).1 hi) h8) (fun h8 => by have := h.lt i (.inl ((f2 i).1 hi)); omega)
  · exact hi.elim (fun h9 => h.lo i (.inl ((f2 i).1 h9))) (fun h9 => (f1 i h9).elim (fun h8 => h.lo i (.inr h8)) (fun h8 => Nat.le_trans hsz h8))
  · obtain ⟨k1, k2, k3⟩ := h.ko o ho
    have hl := blk_lt k1
    exact ⟨(hn o.1 hl k3).trans k1, by rw [f2]; exact k2, fun h9 => (f1 o.1 h9).elim k3 (fun h8 => by omega)⟩
  · exact h.B.trans (e3.below (fun i hi => h.lo i (.inr (hi.imp id .inl))) hsz)
end
/-- Both disks and no stores yet. -/
structure PDx (w0 w : World) (b : Nat) (D : DS) (fs : Nat → Prop) (x : Nat) (R : RS) (gs : Nat → Prop) : Prop where
  d : DiskAt w b D fs
  r : RefAt w x R gs
  sep : ∀ i, fs i → ¬ gs i
  lo : ∀ i, (fs i ∨ gs i) → w0.heap.size ≤ i
  B : Below w0.heap.size w0 w
section
variable {w0 w w' : World} {b p x y : Nat} {D : DS} {R : RS} {fs gs : Nat → Prop} {s t : SV} {ko : List (Nat × Obj)}
theorem PLx.disks (h : PLx w0 w b D fs p s x R gs y t ko) : PDx w0 w b D fs x R gs := ⟨h.d, h.r, fun i hi h9 => h.sep i (.inl hi) (.inl h9), fun i hi => h.lo i (hi.imp .inl .inl), h.B⟩
theorem PDx.below (h : PDx w0 w b D fs x R gs) (hB : Below w.heap.size w w') : PDx w0 w' b D fs x R gs := ⟨h.d.below hB, h.r.below hB, h.sep, h.lo, below_then h.B h.B.size hB⟩
theorem PDx.new {w w1 w2 : World} {b : Nat} {D : DS} {R : RS} (hd : DiskAt w1 b D (fun i => w.heap.size ≤ i ∧ i < w1.heap.size)) (hB : Below w.heap.size w w1) (hr : RefAt w2 w1.heap.size R (fun i => i = w1.heap.size)) (hB2 : Below w1.heap.size w1 w2) :
    PDx w w2 b D (fun i => w.heap.size ≤ i ∧ i < w1.heap.size) w1.heap.size R (fun i => i = w1.heap.size) :=
  ⟨hd.below hB2, hr, fun i hi hg => by omega, fun i hi => hi.elim (fun h => h.1) (fun h => by have := hB.size; omega), below_then hB hB.size hB2⟩
/-- Both stores are opened. -/
theorem PDx.opened {w1 w2 : World} (h : PDx w0 w b D fs x R gs) (hB1 : Below w.heap.size w w1) (hs : StoreAt w1 p b s.T s.R s.B fs) (hp : w.heap.size ≤ p) (hn : RootNew w w1 p) (hB2 : Below w1.heap.size w1 w2) (ht : RStoreAt w2 y x t.T t.R t.B gs) (hy : w1.heap.size ≤ y) (hn2 : RootNew w1 w2 y) : PLx w0 w2 b D fs p s x R gs y t [] := by
  have hd2 := (h.below hB1).below hB2
  have hs2 := hs.below hB2
  have hpb : w2.heap[p]? = w1.heap[p]? := hB2.block p hs.lt
  have z0 := h.B.size
  have z1 := hB1.size
  have z2 := hB2.size
  have hl := hs.lt
  have hrt : ∀ i, rootB w2 p i → w.heap.size ≤ i ∧ i < w1.heap.size := fun i hi => by
    rw [rootB.keep hpb] at hi
    obtain ⟨c, t', fr, hc, hg⟩ := id hi
    exact ⟨hn c t' fr hc i hg, hs.root_ i hi⟩
  have hry : ∀ i, rootB w2 y i → w1.heap.size ≤ i := fun i ⟨c, t', fr, hc, hg⟩ => hn2 c t' fr hc i hg
  refine ⟨hd2.d, hs2, hd2.r, ht, fun i hi h9 => ?_, fun i hi => ?_, fun o ho => (by cases ho), hd2.B⟩
  · have l1 : ∀ j, fs j → j < w.heap.size := h.d.lt
    have l2 : ∀ j, gs j → j < w.heap.size := h.r.lt
    rcases hi with hi | rfl | hi <;> rcases h9 with h9 | rfl | h9
    · exact h.sep i hi h9
    · have := l1 _ hi; omega
    · have := l1 _ hi; have := hry _ h9; omega
    · have := l2 _ h9; omega
    · omega
    · have := hry _ h9; omega
    · have := l2 _ h9; have := hrt _ hi; omega
    · have := hrt _ hi; omega
    · have := hrt _ hi; have := hry _ h9; omega
  · rcases hi with (hi | rfl | hi) | (hi | rfl | hi)
    · exact h.lo i (.inl hi)
    · omega
    · have := (hrt _ hi).1; omega
    · exact h.lo i (.inr hi)
    · omega
    · have := hry _ hi; omega
/-- Both stores are opened anew. -/
theorem PLx.reopened {w1 w2 : World} {p0 y0 : Nat} {s0 t0 : SV} (h : PLx w0 w b D fs p0 s0 x R gs y0 t0 ko) (hB1 : Below w.heap.size w w1) (hs : StoreAt w1 p b s.T s.R s.B fs) (hp : w.heap.size ≤ p) (hn : RootNew w w1 p) (hB2 : Below w1.heap.size w1 w2) (ht : RStoreAt w2 y x t.T t.R t.B gs) (hy : w1.heap.size ≤ y) (hn2 : RootNew w1 w2 y) : PLx w0 w2 b D fs p s x R gs y t ko := by
  have h9 := h.disks.opened hB1 hs hp hn hB2 ht hy hn2
  have hpb : w2.heap[p]? = w1.heap[p]? := hB2.block p hs.lt
  have z1 := hB1.size
  refine ⟨h9.d, h9.st, h9.r, h9.rs, h9.sep, h9.lo, fun o ho => ?_, h9.B⟩
  obtain ⟨k1, k2, k3⟩ := h.ko o ho
  have hl := blk_lt k1
  refine ⟨(hB2.block _ (by omega)).trans ((hB1.block _ hl).trans k1), ?_, ?_⟩
  · rintro (hi | hi | hi)
    · exact k2 (.inl hi)
    · omega
    · rw [rootB.keep hpb] at hi
      obtain ⟨c, t', fr, hc, hg⟩ := hi
      have := hn c t' fr hc _ hg
      omega
  · rintro (hi | hi | hi)
    · exact k3 (.inl hi)
    · omega
    · obtain ⟨c, t', fr, hc, hg⟩ := hi
      have := hn2 c t' fr hc _ hg
      omega
end
end Go.Proofs.Ytlmdghafiadgjaa
