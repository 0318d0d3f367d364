/- The disk: words. Footprints, a map of numbers, rows of bytes. -/
import Derived.Test.YtlmdghafiadgjaaBase2
import Derived.Deep.MidRow
import Derived.Maps.Keyed
import Derived.ChangeKeysEq
import Derived.Laws.StructEq
namespace Go.Proofs.Ytlmdghafiadgjaa
open Go.RowKit Go.Proofs.YtlmdghafiadgjaaW.PrintWords

/-- Nothing but the blocks of fs and new ones has turned. -/
structure Frame (fs : Nat → Prop) (w w' : World) : Prop where
  os : w'.os = w.os
  tape : w'.tape = w.tape
  output : w'.output = w.output
  size : w.heap.size ≤ w'.heap.size
  block : ∀ k, k < w.heap.size → ¬ fs k → w'.heap[k]? = w.heap[k]?
theorem Frame.refl (fs : Nat → Prop) (w : World) : Frame fs w w := ⟨rfl, rfl, rfl, Nat.le_refl _, fun _ _ _ => rfl⟩
theorem Frame.trans {fs gs : Nat → Prop} {a b c : World} (h : Frame fs a b) (k : Frame gs b c) (hg : ∀ i, gs i → fs i ∨ a.heap.size ≤ i) : Frame fs a c :=
  ⟨k.os.trans h.os, k.tape.trans h.tape, k.output.trans h.output, Nat.le_trans h.size k.size, fun i hi hn => (k.block i (Nat.lt_of_lt_of_le hi h.size) (fun hgi => (hg i hgi).elim hn (fun h2 => by omega))).trans (h.block i hi hn)⟩
theorem Frame.same {fs : Nat → Prop} {a b c : World} (h : Frame fs a b) (k : Frame fs b c) : Frame fs a c := h.trans k (fun _ h => .inl h)
theorem Frame.mono {fs gs : Nat → Prop} {a b : World} (h : Frame fs a b) (hs : ∀ i, fs i → gs i) : Frame gs a b := ⟨h.os, h.tape, h.output, h.size, fun i hi hn => h.block i hi (fun hf => hn (hs i hf))⟩
theorem Frame.drew {fs : Nat → Prop} {a b : World} (h : Frame fs a b) : Frame fs a b.drew := ⟨h.os, h.tape, h.output, h.size, h.block⟩
theorem Frame.drewN {fs : Nat → Prop} {a b : World} (h : Frame fs a b) (n : Nat) : Frame fs a (b.drewN n) := ⟨h.os, h.tape, h.output, h.size, h.block⟩
theorem Frame.alloc {fs : Nat → Prop} {a b : World} (h : Frame fs a b) (o : Obj) : Frame fs a (b.alloc o) :=
  ⟨h.os, h.tape, h.output, Nat.le_trans h.size (by simp), fun i hi hn => (Below.heap_alloc b o i (Nat.lt_of_lt_of_le hi h.size)).trans (h.block i hi hn)⟩
theorem Frame.setCell {fs : Nat → Prop} {a b : World} (h : Frame fs a b) {p : Addr} (hp : fs p.block ∨ a.heap.size ≤ p.block) (u : Value) : Frame fs a (b.setCell p u) :=
  ⟨h.os, h.tape, h.output, by have := h.size; simpa using this, fun i hi hn => (Below.heap_setCell b p u i (fun e => by subst e; exact hp.elim hn (fun h2 => by omega))).trans (h.block i hi hn)⟩
theorem Frame.below {fs : Nat → Prop} {B : Nat} {w w' : World} (h : Frame fs w w') (hf : ∀ i, fs i → B ≤ i) (hB : B ≤ w.heap.size) : Below B w w' :=
  ⟨h.os, h.tape, h.output, h.size, fun i hi => h.block i (by omega) (fun h2 => by have := hf i h2; omega)⟩
theorem Below.frame_ {fs : Nat → Prop} {w w' : World} (h : Below w.heap.size w w') : Frame fs w w' := ⟨h.os, h.tape, h.output, h.size, fun i hi _ => h.block i hi⟩
theorem Frame.grown {fs : Nat → Prop} {a b c : World} {row : Option Nat} (h : Frame fs a b) (hg : b.grownBy c row) (hr : ∀ k, row = some k → fs k ∨ a.heap.size ≤ k) : Frame fs a c :=
  ⟨hg.os.trans h.os, hg.tape.trans h.tape, hg.output.trans h.output, Nat.le_trans h.size hg.size, fun i hi hn => (hg.block i (Nat.lt_of_lt_of_le hi h.size) (fun e => (hr i e.symm).elim hn (fun h2 => by omega))).trans (h.block i hi hn)⟩

/-! Rows of bytes as arrays. -/
theorem nums_at (k : IntKind) (xs : List Int) (i : Nat) (h : i < xs.length) : (nums k xs).toArray[i]? = some (.int k xs[i]) := by simp [nums, h]
theorem eqItems_nums {P : Program} (w : World) (d : Nat) {e : TypeId} (k : IntKind) (he : P.plainKey e = true) (hint : P.underlying e = some (.int k)) (xs ys : List Int) : ∀ is : List Nat, (∀ i ∈ is, i < xs.length ∧ i < ys.length) →
    (Op.eqItems (d + 1) e 1 (nums k xs).toArray (nums k ys).toArray is).run P w = .ok (is.all fun i => decide (xs.getD i 0 = ys.getD i 0)) w
  | [], _ => by simp [Op.eqItems]
  | i :: is, h => by
    have hi := h i (by simp)
    have h1 := run_part_plain (P := P) w he (nums_at k xs i hi.1)
    have h2 := run_part_plain (P := P) w he (nums_at k ys i hi.2)
    have ih := eqItems_nums w d k he hint xs ys is (fun j hj => h j (by simp [hj]))
    have h3 : (Op.equalIn (d + 1) e (.int k xs[i]) (.int k ys[i])).run P w = .ok (xs[i] == ys[i]) w := run_equalIn_int w d e k k _ _ hint
    simp only [Op.eqItems, Nat.mul_one, Sem.run_bind, h1, h2, h3, Result.andThen_ok, List.all_cons, List.getD_eq_getElem?_getD, List.getElem?_eq_getElem hi.1, List.getElem?_eq_getElem hi.2, Option.getD_some]
    by_cases e1 : xs[i] = ys[i]
    · simp only [e1, beq_self_eq_true, Bool.not_true, decide_true, Bool.true_and]
      simpa using ih
    · simp [e1]
theorem all_eq (xs ys : List Int) (n : Nat) (hx : xs.length = n) (hy : ys.length = n) : ((List.range n).all fun i => decide (xs.getD i 0 = ys.getD i 0)) = decide (xs = ys) := by
  rw [Bool.eq_iff_iff, List.all_eq_true, decide_eq_true_eq]
  constructor
  · intro h
    apply List.ext_getElem (by omega)
    intro i h1 h2
    have := h i (by simp; omega)
    simpa [h1, h2] using this
  · rintro rfl i _
    simp
theorem eql_row {P : Program} (w : World) {t e : TypeId} {n : Nat} (k : IntKind) {i : TypeInfo} (hu : P.underlying t = some (.array n e)) (hi : P.info? e = some i) (hc : P.cellsOf e = 1) (he : P.plainKey e = true) (hint : P.underlying e = some (.int k)) (xs ys : List Int) (hx : xs.length = n) (hy : ys.length = n) :
    (Op.equalIn 10000 t (.agg (nums k xs).toArray) (.agg (nums k ys).toArray)).run P w = .ok (decide (xs = ys)) w := by
  rw [show (10000 : Nat) = 9999 + 1 from rfl, run_equalIn_array w 9999 _ _ hu hi, hc, eqItems_nums w 9998 k he hint xs ys (List.range n) (fun j hj => by rw [List.mem_range] at hj; omega), all_eq xs ys n hx hy]

/-! A map of numbers to values. -/
def mlook : List (Int × Value) → Int → Option Value
  | [], _ => none
  | p :: l, k => if p.1 = k then some p.2 else mlook l k
def fnd (k : Int) : List (Int × Value) → Nat → Option (Nat × Value)
  | [], _ => none
  | p :: l, i => if p.1 = k then some (i, p.2) else fnd k l (i + 1)
theorem findNow_ints (k : Int) (es : List MapEntry) (l : List (Int × Value)) (h : es.map (fun e => (e.key, e.val)) = l.map (fun p => (Value.int .i64 p.1, p.2))) (i0 : Nat) :
    Instr.findNow (.int .i64) (.int .i64 k) es i0 = some (fnd k l i0) := by
  induction es generalizing l i0 with
  | nil =>
    rcases l with _ | ⟨p, l⟩
    · rfl
    · simp at h
  | cons e es ih =>
    rcases l with _ | ⟨p, l⟩
    · simp at h
    · simp only [List.map_cons, List.cons.injEq, Prod.mk.injEq] at h
      obtain ⟨⟨h1, h2⟩, h3⟩ := h
      rw [Instr.findNow, h1]
      simp only [Instr.sameNow, if_true]
      by_cases hk : p.1 = k
      · subst hk
        simp [fnd, h2]
      · have hk2 : (k == p.1) = false := beq_eq_false_iff_ne.mpr (fun e => hk e.symm)
        rw [hk2, fnd, if_neg hk]
        exact ih l h3 (i0 + 1)
theorem fnd_some {k : Int} : ∀ {l : List (Int × Value)} {i j : Nat} {v : Value}, fnd k l i = some (j, v) → ∃ m, j = i + m ∧ l[m]? = some (k, v) ∧ mlook l k = some v ∧ (∀ u k', mlook (l.set m (k, u)) k' = if k' = k then some u else mlook l k')
  | [], _, _, _, h => by cases h
  | p :: l, i, j, v, h => by
    rw [fnd] at h
    by_cases hk : p.1 = k
    · rw [if_pos hk] at h
      injection h with h; injection h with h1 h2
      subst h1; subst h2; subst hk
      refine ⟨0, rfl, rfl, by rw [mlook, if_pos rfl], fun u k' => ?_⟩
      show mlook ((p.1, u) :: l) k' = _
      rw [mlook, mlook]
      by_cases h : k' = p.1
      · subst h; rw [if_pos rfl, if_pos rfl]
      · rw [if_neg (fun e => h e.symm), if_neg h, if_neg (fun e => h e.symm)]
    · rw [if_neg hk] at h
      obtain ⟨m, rfl, h1, h2, h3⟩ := fnd_some h
      refine ⟨m + 1, by omega, h1, by rw [mlook, if_neg hk]; exact h2, fun u k' => ?_⟩
      show mlook (p :: l.set m (k, u)) k' = _
      rw [mlook, mlook, h3 u k']
      clear h h1 h2 h3
      grind
theorem fnd_none {k : Int} : ∀ {l : List (Int × Value)} {i : Nat}, fnd k l i = none → (∀ p ∈ l, p.1 ≠ k) ∧ mlook l k = none ∧ (∀ u k', mlook (l ++ [(k, u)]) k' = if k' = k then some u else mlook l k')
  | [], _, _ => ⟨by simp, rfl, fun u k' => by
      show mlook [(k, u)] k' = _
      show (if (k, u).1 = k' then some (k, u).2 else mlook [] k') = _
      rw [show mlook [] k' = none from rfl]
      simp only
      grind⟩
  | p :: l, i, h => by
    rw [fnd] at h
    by_cases hk : p.1 = k
    · rw [if_pos hk] at h; cases h
    · rw [if_neg hk] at h
      obtain ⟨h1, h2, h3⟩ := fnd_none h
      refine ⟨fun q hq => ?_, by rw [mlook, if_neg hk]; exact h2, fun u k' => ?_⟩
      · rcases List.mem_cons.1 hq with rfl | hq
        · exact hk
        · exact h1 q hq
      · rw [List.cons_append, mlook, mlook, h3 u k']
        clear h h1 h2 h3
        grind
theorem mlook_none {l : List (Int × Value)} {k : Int} (h : ∀ p ∈ l, p.1 ≠ k) : mlook l k = none := by
  induction l with
  | nil => rfl
  | cons p l ih => rw [mlook, if_neg (h p (by simp)), ih (fun q hq => h q (by simp [hq]))]
theorem mlook_erase : ∀ {l : List (Int × Value)} {m : Nat} {k : Int} {v : Value}, (l.map Prod.fst).Nodup → l[m]? = some (k, v) → ∀ k', mlook (l.eraseIdx m) k' = if k' = k then none else mlook l k'
  | [], _, _, _, _, h => by simp at h
  | p :: l, 0, k, v, hn, h => by
    simp only [List.getElem?_cons_zero, Option.some.injEq] at h
    subst h
    intro k'
    simp only [List.map_cons, List.nodup_cons] at hn
    show mlook l k' = _
    rw [mlook]
    by_cases h : k' = k
    · subst h
      rw [if_pos rfl]
      exact mlook_none (fun q hq e => hn.1 (List.mem_map.2 ⟨q, hq, e⟩))
    · rw [if_neg h, if_neg (fun e => h e.symm)]
  | p :: l, m + 1, k, v, hn, h => by
    simp only [List.map_cons, List.nodup_cons] at hn
    simp only [List.getElem?_cons_succ] at h
    intro k'
    show mlook (p :: l.eraseIdx m) k' = _
    rw [mlook, mlook, mlook_erase hn.2 h k']
    have hpk : p.1 ≠ k := fun e => hn.1 (List.mem_map.2 ⟨(k, v), List.mem_of_getElem? h, e.symm⟩)
    clear h hn
    grind
/-- Block r is a map of numbers to values. -/
def MapI (w : World) (r : Nat) (F : Int → Option Value) : Prop :=
  ∃ es clock l, w.heap[r]? = some (.map es clock) ∧ es.toList.map (fun e => (e.key, e.val)) = l.map (fun p => (Value.int .i64 p.1, p.2)) ∧ (l.map Prod.fst).Nodup ∧ ∀ k, mlook l k = F k
section
variable {P : Program} {w : World} {r : Nat} {F : Int → Option Value} {t kt et : TypeId}
theorem MapI.lt (h : MapI w r F) : r < w.heap.size := by
  obtain ⟨es, clock, l, hb, _⟩ := h
  exact (Array.getElem?_eq_some_iff.1 hb).1
theorem MapI.keep {w' : World} (h : MapI w r F) (hb : w'.heap[r]? = w.heap[r]?) : MapI w' r F := by
  obtain ⟨es, clock, l, h1, h2, h3, h4⟩ := h
  exact ⟨es, clock, l, hb.trans h1, h2, h3, h4⟩
theorem MapI.fresh (w : World) : MapI (w.alloc (.map #[] 0)) w.heap.size (fun _ => none) := ⟨#[], 0, [], heap_alloc_new w _, rfl, by simp, fun k => rfl⟩
theorem isKey_int (k : Int) : MapKept.IsKey (.int .i64) (.int .i64 k) := by simp [MapKept.IsKey]
theorem MapI.lookup (h : MapI w r F) (hm : P.underlying t = some (.map kt et)) (hk : P.underlying kt = some (.int .i64)) (k : Int) (z : Value) (hz : (zeroValue et).run P w = .ok z w) :
    (Instr.lookup t (.map (some r)) (.int .i64 k) false).run P w = .ok ((F k).getD z) w := by
  obtain ⟨es, clock, l, hb, hl, hn, hF⟩ := h
  have h1 := MapKept.run_findKey (w := w) hk (findNow_ints k es.toList l hl 0)
  have h2 := fun b => MapKept.run_checkKey (w := w) hk (isKey_int k) b 9999
  have h3 := MapKept.run_getObj_map (P := P) hb
  rcases hfd : fnd k l 0 with _ | ⟨j, v⟩
  · obtain ⟨_, h4, _⟩ := fnd_none hfd
    rw [hfd] at h1
    simp [Instr.lookup, run_underlying hm, h1, h2, h3, hz, ← hF k, h4]
  · obtain ⟨m, _, _, h4, _⟩ := fnd_some hfd
    rw [hfd] at h1
    simp [Instr.lookup, run_underlying hm, h1, h2, h3, ← hF k, h4]
open Go.ChangeMaps (setBlock)
theorem heap_setBlock {o0 : Obj} (hb : w.heap[r]? = some o0) (o : Obj) : (setBlock w r o).heap[r]? = some o := (MapKept.heap_set (o' := o) hb).1
theorem Frame.setBlock_ {fs : Nat → Prop} {a b : World} (h : Frame fs a b) {r : Nat} (hp : fs r ∨ a.heap.size ≤ r) (o : Obj) : Frame fs a (setBlock b r o) :=
  ⟨h.os, h.tape, h.output, by have := h.size; simpa [setBlock] using this, fun i hi hn => by
    have hne : r ≠ i := fun e => by subst e; exact hp.elim hn (fun h2 => by omega)
    have e : (setBlock b r o).heap[i]? = b.heap[i]? := by simp [setBlock, hne]
    exact e.trans (h.block i hi hn)⟩
theorem MapI.update (h : MapI w r F) (hm : P.underlying t = some (.map kt et)) (hk : P.underlying kt = some (.int .i64)) (k : Int) (u : Value) :
    ∃ o, (Instr.mapUpdate t (.map (some r)) (.int .i64 k) u).run P w = .ok () (setBlock w r o) ∧ MapI (setBlock w r o) r (fun k' => if k' = k then some u else F k') := by
  obtain ⟨es, clock, l, hb, hl, hn, hF⟩ := h
  have h1 := MapKept.run_findKey (w := w) hk (findNow_ints k es.toList l hl 0)
  have h2 := fun b => MapKept.run_checkKey (w := w) hk (isKey_int k) b 9999
  have h3 := MapKept.run_getObj_map (P := P) hb
  rcases hfd : fnd k l 0 with _ | ⟨j, v⟩
  · obtain ⟨h4, _, h6⟩ := fnd_none hfd
    rw [hfd] at h1
    refine ⟨.map (es.push { key := .int .i64 k, val := u, born := clock }) (clock + 1), ?_, _, _, l ++ [(k, u)], heap_setBlock hb _, ?_, ?_, fun k' => by rw [h6, hF]⟩
    · simp [Instr.mapUpdate, run_underlying hm, h1, h2, h3, MapKept.run_setObj_map _ hb, setBlock]
    · simp [hl]
    · rw [List.map_append, List.nodup_append]
      refine ⟨hn, by simp, ?_⟩
      intro a ha b hb e
      obtain ⟨p, hp, rfl⟩ := List.mem_map.1 ha
      simp only [List.map_cons, List.map_nil, List.mem_singleton] at hb
      subst hb
      exact h4 p hp e
  · obtain ⟨m, hj, h4, _, h6⟩ := fnd_some hfd
    rw [Nat.zero_add] at hj
    subst hj
    rw [hfd] at h1
    have hlen : es.toList.length = l.length := by have := congrArg List.length hl; simpa using this
    have hm2 : j < l.length := by
      rcases Nat.lt_or_ge j l.length with h | h
      · exact h
      · rw [List.getElem?_eq_none h] at h4; cases h4
    have hkey : (es[j]?).map (·.key) = some (.int .i64 k) := by
      have h8 := congrArg (fun z => z[j]?) hl
      simp only [List.getElem?_map, h4, Option.map_some, Array.getElem?_toList] at h8
      rcases hx : es[j]? with _ | x
      · rw [hx] at h8; cases h8
      · rw [hx] at h8
        simp only [Option.map_some, Option.some.injEq, Prod.mk.injEq] at h8
        simp [h8.1]
    refine ⟨.map (es.modify j fun e => { e with key := .int .i64 k, val := u }) clock, ?_, _, _, l.set j (k, u), heap_setBlock hb _, ?_, ?_, fun k' => by rw [h6, hF]⟩
    · simp [Instr.mapUpdate, run_underlying hm, h1, h2, h3, MapKept.run_setObj_map _ hb, setBlock, hkey, Instr.keyThatStays, Instr.sameBits]
    · apply List.ext_getElem?
      intro i
      have h8 := congrArg (fun z => z[i]?) hl
      simp only [List.getElem?_map, Array.getElem?_toList] at h8 ⊢
      rw [Array.getElem?_modify, List.getElem?_set]
      by_cases hij : j = i
      · subst hij
        have hes : j < es.size := by simp at hlen; omega
        simp [hm2, hes]
      · rw [if_neg hij, if_neg hij]
        exact h8
    · have e : (l.set j (k, u)).map Prod.fst = l.map Prod.fst := by
        rw [List.map_set]
        apply List.ext_getElem?
        intro i
        rw [List.getElem?_set]
        by_cases hij : j = i
        · subst hij
          rw [List.getElem?_map, h4]
          simp [hm2]
        · rw [if_neg hij]
      rw [e]; exact hn
theorem MapI.delete (h : MapI w r F) (hm : P.underlying t = some (.map kt et)) (hk : P.underlying kt = some (.int .i64)) (k : Int) (ty : TypeId) :
    ∃ o, (Builtin.delete_ #[t, kt] ty #[.map (some r), .int .i64 k]).run P w = .ok (.tuple #[]) (setBlock w r o) ∧ MapI (setBlock w r o) r (fun k' => if k' = k then none else F k') := by
  obtain ⟨es, clock, l, hb, hl, hn, hF⟩ := h
  have h1 := MapKept.run_findKey (w := w) hk (findNow_ints k es.toList l hl 0)
  have h2 := fun b => MapKept.run_checkKey (w := w) hk (isKey_int k) b 9999
  have h3 := MapKept.run_getObj_map (P := P) hb
  rcases hfd : fnd k l 0 with _ | ⟨j, v⟩
  · obtain ⟨_, h5, _⟩ := fnd_none hfd
    rw [hfd] at h1
    refine ⟨.map es clock, ?_, _, _, l, heap_setBlock hb _, hl, hn, fun k' => ?_⟩
    · simp [Builtin.delete_, run_underlying hm, h1, h2, h3, MapKept.run_setObj_map _ hb, setBlock]
    · show mlook l k' = if k' = k then none else F k'
      by_cases h : k' = k
      · subst h; rw [if_pos rfl, h5]
      · rw [if_neg h, hF]
  · obtain ⟨m, hj, h4, _, _⟩ := fnd_some hfd
    rw [Nat.zero_add] at hj
    subst hj
    rw [hfd] at h1
    refine ⟨.map (es.eraseIdxIfInBounds j) clock, ?_, _, _, l.eraseIdx j, heap_setBlock hb _, ?_, ?_, fun k' => by rw [mlook_erase hn h4 k', hF]⟩
    · simp [Builtin.delete_, run_underlying hm, h1, h2, h3, MapKept.run_setObj_map _ hb, setBlock]
    · have e : (es.eraseIdxIfInBounds j).toList = es.toList.eraseIdx j := by simp
      rw [e, ChangeMaps.map_eraseIdx, hl, ← ChangeMaps.map_eraseIdx]
    · rw [ChangeMaps.map_eraseIdx]
      exact hn.sublist (List.eraseIdx_sublist _ _)
end
end Go.Proofs.Ytlmdghafiadgjaa
