/- kind: a set of texts as a map; rows of parameters; Right. -/
import Derived.Test.YtdnehnjcbdkgcaaK5
import Derived.Test.YtdnehnjcbdkgcaaPKindReadsx4
import Derived.Test.YtdnehnjcbdkgcaaPKindReadsx5
import Derived.Maps.Keyed
import Derived.ChangeKeysEq
namespace Go.Proofs.Ytdnehnjcbdkgcaa
open Go.RowKit Go.Shelf Go.Proofs.YtdnehnjcbdkgcaaW.PrintWords PKindReads

abbrev Pm := List Int × List Int
theorem St_beq2 {a b : List Int} (ha : Bytes a) (hb : Bytes b) : (St a == St b) = decide (a = b) := by
  have e : (St a == St b) = ((St a).data == (St b).data) := rfl
  rw [e, Bool.eq_iff_iff, beq_iff_eq, decide_eq_true_eq]
  exact ⟨fun h => St_inj ha hb (ba_ext (congrArg Array.toList h)), fun h => by rw [h]⟩
/-- Block r is a map that holds these texts, each with true. -/
def SetS (w : World) (r : Nat) (l : List (List Int)) : Prop :=
  ∃ es clock, w.heap[r]? = some (.map es clock) ∧ es.toList.map (fun e => (e.key, e.val)) = l.map (fun p => (Value.string (St p), Value.bool true)) ∧ ∀ p ∈ l, Bytes p
theorem SetS.lt {w : World} {r : Nat} {l : List (List Int)} (h : SetS w r l) : r < w.heap.size := by
  obtain ⟨es, clock, hb, _⟩ := h
  exact (Array.getElem?_eq_some_iff.1 hb).1
theorem SetS.keep {w w' : World} {r : Nat} {l : List (List Int)} (h : SetS w r l) (hb : w'.heap[r]? = w.heap[r]?) : SetS w' r l := by
  obtain ⟨es, clock, h1, h2, h3⟩ := h
  exact ⟨es, clock, hb.trans h1, h2, h3⟩
theorem SetS.below {w w' : World} {r : Nat} {l : List (List Int)} (h : SetS w r l) (hb : Below w.heap.size w w') : SetS w' r l := h.keep (hb.block r h.lt)
theorem SetS.fresh (w : World) : SetS (w.alloc (.map #[] 0)) w.heap.size [] := ⟨#[], 0, heap_alloc_new w _, rfl, by simp⟩
theorem findNow_texts (k : List Int) (hk : Bytes k) (es : List MapEntry) (l : List (List Int)) (hl : ∀ p ∈ l, Bytes p) (h : es.map (fun e => (e.key, e.val)) = l.map (fun p => (Value.string (St p), Value.bool true))) (i0 : Nat) :
    (k ∉ l → Instr.findNow .string (.string (St k)) es i0 = some none) ∧ (k ∈ l → ∃ j, Instr.findNow .string (.string (St k)) es i0 = some (some (j, .bool true))) := by
  induction es generalizing l i0 with
  | nil =>
    rcases l with _ | ⟨p, l⟩
    · exact ⟨fun _ => rfl, fun h => by cases h⟩
    · simp at h
  | cons e es ih =>
    rcases l with _ | ⟨p, l⟩
    · simp at h
    · simp only [List.map_cons, List.cons.injEq, Prod.mk.injEq] at h
      obtain ⟨⟨h1, h2⟩, h3⟩ := h
      rw [Instr.findNow, h1]
      simp only [Instr.sameNow]
      rw [St_beq2 hk (hl p List.mem_cons_self)]
      by_cases hkp : k = p
      · subst hkp
        rw [decide_eq_true rfl]
        exact ⟨fun h => absurd List.mem_cons_self h, fun _ => ⟨i0, by rw [h2]⟩⟩
      · rw [decide_eq_false hkp]
        obtain ⟨i1, i2⟩ := ih l (fun q hq => hl q (List.mem_cons_of_mem _ hq)) h3 (i0 + 1)
        exact ⟨fun h => i1 (fun hm => h (List.mem_cons_of_mem _ hm)), fun h => i2 ((List.mem_cons.1 h).resolve_left hkp)⟩
theorem isKey_text (s : ByteArray) : MapKept.IsKey .string (.string s) := by simp [MapKept.IsKey]
section
variable {P : Program} {w : World} {r : Nat} {l : List (List Int)} {t kt et : TypeId}
theorem SetS.lookup (h : SetS w r l) (hm : P.underlying t = some (.map kt et)) (hk : P.underlying kt = some .string) (k : List Int) (hb : Bytes k) (hz : (zeroValue et).run P w = .ok (.bool false) w) :
    (Instr.lookup t (.map (some r)) (.string (St k)) false).run P w = .ok (.bool (decide (k ∈ l))) w := by
  obtain ⟨es, clock, hbl, hl, hby⟩ := h
  obtain ⟨f1, f2⟩ := findNow_texts k hb es.toList l hby hl 0
  have h2 := fun b => MapKept.run_checkKey (w := w) hk (isKey_text (St k)) b 9999
  have h3 := MapKept.run_getObj_map (P := P) hbl
  by_cases hmem : k ∈ l
  · obtain ⟨j, hj⟩ := f2 hmem
    have h1 := MapKept.run_findKey (w := w) hk hj
    simp [Instr.lookup, run_underlying hm, h1, h2, h3, hmem]
  · have h1 := MapKept.run_findKey (w := w) hk (f1 hmem)
    simp [Instr.lookup, run_underlying hm, h1, h2, h3, hz, hmem]
open Go.ChangeMaps (setBlock)
theorem heap_setBlock' {o0 : Obj} (hb : w.heap[r]? = some o0) (o : Obj) : (setBlock w r o).heap[r]? = some o := (MapKept.heap_set (o' := o) hb).1
theorem SetS.push (h : SetS w r l) (hm : P.underlying t = some (.map kt et)) (hk : P.underlying kt = some .string) (k : List Int) (hb : Bytes k) (hn : k ∉ l) :
    ∃ o, (Instr.mapUpdate t (.map (some r)) (.string (St k)) (.bool true)).run P w = .ok () (setBlock w r o) ∧ SetS (setBlock w r o) r (l ++ [k]) := by
  obtain ⟨es, clock, hbl, hl, hby⟩ := h
  obtain ⟨f1, _⟩ := findNow_texts k hb es.toList l hby hl 0
  have h1 := MapKept.run_findKey (w := w) hk (f1 hn)
  have h2 := fun b => MapKept.run_checkKey (w := w) hk (isKey_text (St k)) b 9999
  have h3 := MapKept.run_getObj_map (P := P) hbl
  refine ⟨.map (es.push { key := .string (St k), val := .bool true, born := clock }) (clock + 1), ?_, _, _, heap_setBlock' hbl _, ?_, ?_⟩
  · simp [Instr.mapUpdate, run_underlying hm, h1, h2, h3, MapKept.run_setObj_map _ hbl, setBlock]
  · simp [hl]
  · intro p hp
    rcases List.mem_append.1 hp with hp | hp
    · exact hby p hp
    · rw [List.mem_singleton.1 hp]; exact hb
end
open Go.ChangeMaps (setBlock) in
theorem below_setBlock {B : Nat} {a b : World} (h : Below B a b) {r : Nat} (hr : B ≤ r) (o : Obj) : Below B a (setBlock b r o) :=
  ⟨h.os, h.tape, h.output, by have := h.size; simpa [setBlock] using this, fun i hi => by
    have hne : r ≠ i := by omega
    have e : (setBlock b r o).heap[i]? = b.heap[i]? := by simp [setBlock, hne]
    exact e.trans (h.block i hi)⟩
open Go.ChangeMaps (setBlock) in
theorem blk_setBlock {w : World} {g r : Nat} {o : Obj} (h : w.heap[g]? = some o) (hne : r ≠ g) (o' : Obj) : (setBlock w r o').heap[g]? = some o := by
  have e : (setBlock w r o').heap[g]? = w.heap[g]? := by simp [setBlock, hne]
  exact e.trans h

/-! Rows of parameters. -/
def toS (p : Pm) : S42 := ⟨St p.1, St p.2⟩
def PRow (w : World) (A : Option Addr) (ps : List Pm) : Prop := Kd.C k42 w A ps.length (ps.map toS)
theorem PRow.below {w w' : World} {A : Option Addr} {ps : List Pm} (h : PRow w A ps) (hb : Below w.heap.size w w') : PRow w' A ps := Kd.C_below h hb
theorem PRow.at_ {w : World} {A : Option Addr} {ps : List Pm} (h : PRow w A ps) (k : Nat) (hk : k < ps.length) : ∃ ad, A = some ad ∧ w.cell? (ad.add (k * 2)) = some (.string (St ps[k].1)) ∧ w.cell? ⟨(ad.add (k * 2)).block, (ad.add (k * 2)).off + 1, none⟩ = some (.string (St ps[k].2)) := by
  obtain ⟨ad, hA, h0, h1⟩ := at_T42 h (k : Int) (by omega) (by omega)
  have e : rd_T42 (ps.map toS) (k : Int) = toS ps[k] := by simp [rd_T42, hk]
  rw [e, Int.toNat_natCast] at h0 h1
  exact ⟨ad, hA, h0, h1⟩
def parB : List (List Int) → List Pm → Bool
  | _, [] => true
  | seen, p :: ps => smallB p.1 && (valueB p.2 && (!decide (p.1 ∈ seen) && parB (seen ++ [p.1]) ps))
def rightB (t s : List Int) (ps : List Pm) : Bool := parB [] ps && (smallB t && (smallB s && decide (ps.length ≤ 16)))
/-- A kind that may be walked. -/
structure KOk (t s : List Int) (ps : List Pm) : Prop where
  tb : Bytes t
  sb : Bytes s
  tl : t.length ≤ 4294967296
  sl : s.length ≤ 4294967296
  n : ps.length ≤ 4294967296
  p1 : ∀ p ∈ ps, Bytes p.1 ∧ p.1.length ≤ 4294967296
  p2 : ∀ p ∈ ps, Bytes p.2 ∧ p.2.length ≤ 4294967296
end Go.Proofs.Ytdnehnjcbdkgcaa
