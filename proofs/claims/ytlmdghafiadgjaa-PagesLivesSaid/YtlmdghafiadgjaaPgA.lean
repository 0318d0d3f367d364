/- pages: a store that a law has made; its calls. -/
import Derived.Test.YtlmdghafiadgjaaPg12
import Derived.Test.YtlmdghafiadgjaaDkN
namespace Go.Proofs.Ytlmdghafiadgjaa
set_option linter.unusedVariables false
set_option linter.unusedSimpArgs false
open Go.RowKit Go.Proofs.YtlmdghafiadgjaaW.PrintWords Go.Proofs.YtlmdghafiadgjaaW.PrintLast

/-- A disk that is a law's own. -/
def LD (w0 w : World) (b : Nat) (D : DS) : Prop := ∃ fs, DiskAt w b D fs ∧ (∀ i, fs i → w0.heap.size ≤ i) ∧ Below w0.heap.size w0 w
/-- A disk and a store on it that are a law's own. -/
def LP (w0 w : World) (b : Nat) (D : DS) (p : Nat) (T : Int) (R : List Int) (B : Bool) : Prop := ∃ fs, DiskAt w b D fs ∧ StoreAt w p b T R B fs ∧ (∀ i, fs i → w0.heap.size ≤ i) ∧ w0.heap.size ≤ p ∧ Below w0.heap.size w0 w
theorem LD.below {w0 w w' : World} {b : Nat} {D : DS} (h : LD w0 w b D) (hB : Below w.heap.size w w') : LD w0 w' b D := by
  obtain ⟨fs, h1, h2, h3⟩ := h
  exact ⟨fs, h1.below hB, h2, below_then h3 h3.size hB⟩
theorem LD.all {w0 w : World} {b : Nat} {D : DS} (h : LD w0 w b D) : Below w0.heap.size w0 w := by
  obtain ⟨_, _, _, h⟩ := h; exact h
theorem LD.ok {w0 w : World} {b : Nat} {D : DS} (h : LD w0 w b D) : D.Ok := by
  obtain ⟨_, h, _⟩ := h; exact h.ok
theorem LP.below {w0 w w' : World} {b : Nat} {D : DS} {p : Nat} {T : Int} {R : List Int} {B : Bool} (h : LP w0 w b D p T R B) (hB : Below w.heap.size w w') : LP w0 w' b D p T R B := by
  obtain ⟨fs, h1, h2, h3, h4, h5⟩ := h
  exact ⟨fs, h1.below hB, h2.below hB, h3, h4, below_then h5 h5.size hB⟩
theorem LP.all {w0 w : World} {b : Nat} {D : DS} {p : Nat} {T : Int} {R : List Int} {B : Bool} (h : LP w0 w b D p T R B) : Below w0.heap.size w0 w := by
  obtain ⟨fs, h1, h2, h3, h4, h5⟩ := h; exact h5
theorem LP.ld {w0 w : World} {b : Nat} {D : DS} {p : Nat} {T : Int} {R : List Int} {B : Bool} (h : LP w0 w b D p T R B) : LD w0 w b D := by
  obtain ⟨fs, h1, h2, h3, h4, h5⟩ := h; exact ⟨fs, h1, h3, h5⟩
theorem LP.ptr {w0 w : World} {b : Nat} {D : DS} {p : Nat} {T : Int} {R : List Int} {B : Bool} (h : LP w0 w b D p T R B) : w.cell? ⟨p, 0, none⟩ = some (.pointer (some ⟨b, 0, none⟩)) := by
  obtain ⟨fs, h1, h2, h3, h4, h5⟩ := h; exact h2.cells.1
theorem LP.blk {w0 w : World} {b : Nat} {D : DS} {p : Nat} {T : Int} {R : List Int} {B : Bool} (h : LP w0 w b D p T R B) : ∃ v, w.heap[p]? = some (.cells #[.pointer (some ⟨b, 0, none⟩), .int .u64 T, v, .bool B] 34 (0, 0)) := by
  obtain ⟨fs, h1, ⟨v, h2, _⟩, h3, h4, h5⟩ := h; exact ⟨v, h2⟩
theorem LP.of {w0 w w' : World} {b : Nat} {D' : DS} {p : Nat} {fs : Nat → Prop} {T' : Int} {R' : List Int} {B' : Bool} (hf : ∀ i, fs i → w0.heap.size ≤ i) (hp : w0.heap.size ≤ p) (hB : Below w0.heap.size w0 w) (h : EffS w p b fs D' T' R' B' w') : LP w0 w' b D' p T' R' B' := by
  obtain ⟨gs, h1, h2, h3, h4, _⟩ := h
  refine ⟨gs, h1, h2, fun i hi => (h4 i hi).elim (hf i) (fun h9 => Nat.le_trans hB.size h9), hp, hB.trans (h3.below (fun i hi => hi.elim (hf i) (fun e => by rw [e]; exact hp)) hB.size)⟩
theorem ld_new (n : Int) (w : World) (h : 1 ≤ n) (h2 : n ≤ 65536) : Calls Try.prog 21 #[.int .i64 n] w fun e w' => ∃ b, e = .returned (.tuple #[.pointer (some ⟨b, 0, none⟩), .int .i64 0]) ∧ LD w w' b (newD n) := by
  refine (new_yes n w h h2).mono ?_
  rintro e w1 ⟨b, rfl, hD, hB⟩
  exact ⟨b, rfl, _, hD, fun i hi => hi.1, hB⟩
theorem ld_open {w0 w : World} {b : Nat} {D : DS} (h : LD w0 w b D) {T : Int} {R : List Int} (he : openE D = 0) (ht : openT D = (T, R)) : Calls Try.prog 14 #[.pointer (some ⟨b, 0, none⟩)] w fun e w' => ∃ p, e = .returned (.tuple #[.pointer (some ⟨p, 0, none⟩), .int .i64 0]) ∧ LP w0 w' b D p T R false ∧ w.heap.size ≤ p ∧ Below w.heap.size w w' := by
  obtain ⟨fs, h1, h2, h3⟩ := h
  refine (open_any b D fs w h1).mono ?_
  rintro e w1 ⟨v, rfl, hB, hy, _⟩
  obtain ⟨p, rfl, hp, hs, _⟩ := hy he
  rw [he]
  rw [ht] at hs
  exact ⟨p, rfl, ⟨fs, h1.below hB, hs, h2, Nat.le_trans h3.size hp, below_then h3 h3.size hB⟩, hp, hB⟩
theorem ld_open_no {w0 w : World} {b : Nat} {D : DS} (h : LD w0 w b D) {q : Int} (he : openE D = q) (hq : q ≠ 0) : Calls Try.prog 14 #[.pointer (some ⟨b, 0, none⟩)] w fun e w' => e = .returned (.tuple #[.pointer none, .int .i64 q]) ∧ Below w.heap.size w w' := by
  subst he
  obtain ⟨fs, h1, h2, h3⟩ := h
  refine (open_any b D fs w h1).mono ?_
  rintro e w1 ⟨v, rfl, hB, _, hn⟩
  rw [hn hq]
  exact ⟨rfl, hB⟩
theorem lp_turn {w0 w : World} {b : Nat} {D : DS} {p : Nat} {T : Int} {R : List Int} {B : Bool} (h : LP w0 w b D p T R B) : Calls Try.prog 20 #[.pointer (some ⟨p, 0, none⟩)] w fun e w' => e = .returned (.int .u64 T) ∧ w = w' := by
  obtain ⟨fs, h1, h2, _⟩ := h
  exact sturn_yes p b T R B fs w h2
theorem lp_root {w0 w : World} {b : Nat} {D : DS} {p : Nat} {T : Int} {R : List Int} {B : Bool} (h : LP w0 w b D p T R B) (hl : R.length ≤ 1200) : Calls Try.prog 19 #[.pointer (some ⟨p, 0, none⟩)] w fun e w' => ∃ v, e = .returned v ∧ ORow .u8 5 w' w.heap.size v R ∧ Below w.heap.size w w' := by
  obtain ⟨fs, h1, h2, _⟩ := h
  exact sroot_yes p b T R B fs w h2 hl
theorem lp_pages {w0 w : World} {b : Nat} {D : DS} {p : Nat} (h : LD w0 w b D) (hp : w.cell? ⟨p, 0, none⟩ = some (.pointer (some ⟨b, 0, none⟩))) {n : Int} (hn : D.size / 4 = n) : Calls Try.prog 18 #[.pointer (some ⟨p, 0, none⟩)] w fun e w' => e = .returned (.int .i64 n) ∧ w = w' := by
  subst hn
  have ho := h.ok
  obtain ⟨fs, ⟨r, v, hd⟩, _⟩ := h
  exact spages_yes p b D.size w hp ((blk_cell hd.blk 0).trans rfl) ho.pos ho.max
theorem lp_read {w0 w : World} {b : Nat} {D : DS} {p : Nat} {T : Int} {R : List Int} {B : Bool} (h : LP w0 w b D p T R B) (n : Int) {r : Int × List Int × Int} (hr : readPV D n = r) : Calls Try.prog 15 #[.pointer (some ⟨p, 0, none⟩), .int .i64 n] w fun e w' => ∃ v, e = .returned (.tuple #[.int .u8 r.1, v, .int .i64 r.2.2]) ∧ ORow .u8 5 w' w.heap.size v r.2.1 ∧ Below w.heap.size w w' := by
  subst hr
  obtain ⟨fs, h1, h2, _⟩ := h
  exact sread_yes p b D T R B fs n w h2 h1
theorem lp_write {w0 w : World} {b : Nat} {D : DS} {p : Nat} {T : Int} {R : List Int} {B : Bool} (h : LP w0 w b D p T R B) (n k : Int) (A : Option Addr) (m c : Nat) (xs : List Int) (hr : ReadsInt w .u8 A m xs) (hx : Bytes xs) (hk : 0 ≤ k ∧ k ≤ 255) (hq : D.after ≤ 9223372036854775807 ∧ D.pend.length ≤ 999998000) {r : Int × DS × Bool} (hv : swriteV D T B n k xs = r) :
    Calls Try.prog 16 #[.pointer (some ⟨p, 0, none⟩), .int .i64 n, .int .u8 k, .slice A m c] w fun e w' => e = .returned (.int .i64 r.1) ∧ LP w0 w' b r.2.1 p T R r.2.2 := by
  subst hv
  obtain rfl : xs.length = m := hr.1
  obtain ⟨fs, h1, h2, h3, h4, h5⟩ := h
  refine (swrite_yes p b D T R B fs n k A c xs w h2 h1 hr hx hk.1 hk.2 hq.1 (by omega)).mono ?_
  rintro e w1 ⟨rfl, hE⟩
  exact ⟨rfl, LP.of h3 h4 h5 hE⟩
/-- The row at A is none of the store's in w1: it is older than the law, or newer than w1. -/
theorem lp_commit {w0 w1 w : World} {b : Nat} {D : DS} {p : Nat} {T : Int} {R : List Int} {B : Bool} (h : LP w0 w1 b D p T R B) (hB : Below w1.heap.size w1 w) (A : Option Addr) (m c : Nat) (xs : List Int) (hr : ReadsInt w .u8 A m xs) (hx : Bytes xs) (hA : 0 < m → ∀ ad, A = some ad → ad.block < w0.heap.size ∨ w1.heap.size ≤ ad.block) (hq : D.after ≤ 9223372036854775807 ∧ D.pend.length ≤ 999998000) {r : CR} (hv : scommitV D T R B xs = r) :
    Calls Try.prog 17 #[.pointer (some ⟨p, 0, none⟩), .slice A m c] w fun e w' => e = .returned (.int .i64 r.e) ∧ LP w0 w' b r.D p r.T r.R r.B := by
  subst hv
  obtain rfl : xs.length = m := hr.1
  obtain ⟨fs, h1, h2, h3, h4, h5⟩ := h
  refine (scommit_yes p b D T R B fs A c xs w (h2.below hB) (h1.below hB) hr hx (fun h0 ad e => ?_) hq.1 hq.2).mono ?_
  · have hp := h2.lt
    refine ⟨fun hf => ?_, fun e9 => ?_⟩
    · have := h3 _ hf
      have := h1.lt _ hf
      exact (hA h0 ad e).elim (fun h => by omega) (fun h => by omega)
    · exact (hA h0 ad e).elim (fun h => by omega) (fun h => by omega)
  · rintro e w2 ⟨rfl, hE⟩
    exact ⟨rfl, LP.of h3 h4 (below_then h5 h5.size hB) hE⟩
theorem ld_crash {w0 w : World} {b : Nat} {D : DS} (h : LD w0 w b D) (k t : Int) :
    Calls Try.prog 28 #[.pointer (some ⟨b, 0, none⟩), .int .i64 k, .int .i64 t] w fun e w' => e = .returned (.int .i64 0) ∧ LD w0 w' b (crashV D k t) := by
  obtain ⟨fs, h1, h2, h3⟩ := h
  refine (crash_any b D fs k t w h1).mono ?_
  rintro e w1 ⟨rfl, gs, g1, g2, g3⟩
  exact ⟨rfl, gs, g1, fun i hi => (g3 i hi).elim (h2 i) (fun h9 => Nat.le_trans h3.size h9), h3.trans (g2.below h2 h3.size)⟩
theorem ld_fail {w0 w : World} {b : Nat} {D : DS} (h : LD w0 w b D) (a e0 : Int) :
    Calls Try.prog 26 #[.pointer (some ⟨b, 0, none⟩), .int .i64 a, .int .i64 e0] w fun e w' => e = .returned (.int .i64 (failV D a e0).1) ∧ LD w0 w' b (failV D a e0).2 := by
  obtain ⟨fs, h1, h2, h3⟩ := h
  refine (fail_any b D fs a e0 w h1).mono ?_
  rintro e w1 ⟨rfl, g1, g2⟩
  exact ⟨rfl, fs, g1, h2, h3.trans (g2.below h2 h3.size)⟩
theorem lp_fail {w0 w : World} {b : Nat} {D : DS} {p : Nat} {T : Int} {R : List Int} {B : Bool} (h : LP w0 w b D p T R B) (a e0 : Int) :
    Calls Try.prog 26 #[.pointer (some ⟨b, 0, none⟩), .int .i64 a, .int .i64 e0] w fun e w' => e = .returned (.int .i64 (failV D a e0).1) ∧ LP w0 w' b (failV D a e0).2 p T R B := by
  obtain ⟨fs, h1, h2, h3, h4, h5⟩ := h
  refine (fail_any b D fs a e0 w h1).mono ?_
  rintro e w1 ⟨rfl, g1, g2⟩
  exact ⟨rfl, fs, g1, h2.eff g2 (fun _ h => .inl h) (fun _ h => .inl h), h3, h4, h5.trans (g2.below h3 h5.size)⟩
def ay1 : Int × DS × Bool := swriteV (newD 16) 0 false 2 5 [97, 98]
def ay2 : CR := scommitV ay1.2.1 0 [] false [120]
theorem ay_o1 : openE (newD 16) = 0 := by decide +kernel
theorem ay_o2 : openT (newD 16) = (0, []) := by decide +kernel
theorem ay_w : ay1.1 = 0 := by decide +kernel
theorem ay_wb : ay1.2.2 = false := by decide +kernel
theorem ay_c : ay2.e = 0 := by decide +kernel
theorem ay_o3 : openE ay2.D = 0 := by decide +kernel
theorem ay_o4 : openT ay2.D = (1, [120]) := by decide +kernel
theorem ay_r2 : readPV ay2.D 2 = (5, [97, 98], 0) := by decide +kernel
theorem ay_r3 : readPV ay2.D 3 = (0, [], 161) := by decide +kernel
theorem ay_sz : ay2.D.size / 4 = 4 := by decide +kernel
theorem ay_q : ay1.2.1.after ≤ 9223372036854775807 ∧ ay1.2.1.pend.length ≤ 999998000 := by decide +kernel
end Go.Proofs.Ytlmdghafiadgjaa
