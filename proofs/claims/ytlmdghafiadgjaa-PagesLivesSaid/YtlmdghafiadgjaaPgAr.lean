/- Arguments of rows and of ops with rows, opened: by the recipes of the kit's paper on structs (its plain theorem open_slice_fields is pasted as that paper bids). -/
import Derived.Test.YtlmdghafiadgjaaPgA
import Derived.Deep.Slices
import Derived.Deep.Fields
import Derived.ChangeSame
import Derived.OpenShut
import Derived.Lib.SmallJoins
namespace Go.Proofs.Ytlmdghafiadgjaa
set_option linter.unusedVariables false
set_option linter.unusedSimpArgs false
open Go.ChangeShapes Go.WideShapes Go.RowKit Go.Deep Go.Proofs.YtlmdghafiadgjaaW.PrintWords
section
variable {H : Type} {enc : TypeId × Value → H} {P : Program} {w : World} {base : Nat} {spare : Nat → Bool} {held : Bool}
theorem open_slice_fields {t e : TypeId} {fs : Array Field} {fuel : Nat} {cs : List Value} {x : DataW H × List MemPlace} (ht : P.underlying t = some (.slice e)) (he : P.underlying e = some (.struct fs))
    (hone : oneCellFields P fs = true) (hC : P.cellsOf e = fs.size) (h : DataW.trod enc P w base spare held fuel t cs = some x) :
    (cs = [.slice none 0 0] ∧ x = (.nil, [])) ∨
    ∃ (a : Addr) (len cap m : Nat) (D : Nat → DataW H) (Pl : Nat → List MemPlace), cs = [.slice (some a) len cap] ∧ base ≤ a.block ∧ len ≤ cap ∧ cap ≤ maxLen ∧ m = (if spare a.block then cap else len) ∧
      x = (.slice ((List.range len).map D) ((List.range (m - len)).map fun j => D (len + j)), MemPlace.row a (m * fs.size) ++ (List.range m).flatMap Pl) ∧
      ∀ i, i < m → ∃ (ys : List (DataW H × List MemPlace)) (n : Nat), D i = .agg (ys.map (·.1)) ∧ Pl i = ys.flatMap (·.2) ∧ ys.length = fs.size ∧
        ∀ (j : Nat) (f : Field), fs[j]? = some f → ∃ (v : Value) (y : DataW H × List MemPlace), w.cell? (a.add (i * fs.size + j)) = some v ∧ ys[j]? = some y ∧ DataW.trod enc P w base spare held n f.type [v] = some y := by
  rcases open_slice ht h with h0 | ⟨a, len, cap, m, n, D, Pl, hcs, hb, hl, hm, hmm, hx, hi⟩
  · exact .inl h0
  · refine .inr ⟨a, len, cap, m, D, Pl, hcs, hb, hl, hm, hmm, by rw [hC] at hx; exact hx, fun i him => ?_⟩
    obtain ⟨cs', hc, ht'⟩ := hi i him
    rw [hC] at hc
    obtain ⟨ys, n', hn', hy, hlen, hyl, hf⟩ := DataW.trod_struct he ht'
    obtain ⟨_, hcl, hat⟩ := World.cells?_some hc
    simp only [Prod.mk.injEq] at hy
    refine ⟨ys, n', hy.1, hy.2, hyl, fun j f hj => ?_⟩
    obtain ⟨ho, hk⟩ := hone_of hone j f hj
    have hjl : j < fs.size := (Array.getElem?_eq_some_iff.1 hj).1
    have hcell := hat j hjl
    have hv : cs'[j]? = some (cs'[j]'(by omega)) := List.getElem?_eq_getElem (by omega)
    have h1 := hf j f hj
    rw [ho, hk] at h1
    have hone' : (cs'.drop j).take 1 = [cs'[j]'(by omega)] := by
      rw [List.drop_eq_getElem_cons (by omega)]
      rfl
    rw [hone'] at h1
    have hys : ys[j]? = some (ys[j]'(by omega)) := List.getElem?_eq_getElem (by omega)
    refine ⟨_, _, ?_, hys, h1.trans hys⟩
    rw [← Go.Deep.add_add, hcell, hv]
end
theorem wf_byte {n : Int} (h : (Lit.int .u8 n).wf = true) : 0 ≤ n ∧ n ≤ 255 := by
  simp only [Lit.wf, Bool.and_eq_true, decide_eq_true_eq] at h
  exact ⟨h.1, h.2⟩
theorem wf_i64 {n : Int} (h : (Lit.int .i64 n).wf = true) : n ≤ 9223372036854775807 := by
  simp only [Lit.wf, Bool.and_eq_true, decide_eq_true_eq] at h
  exact h.2
/-- A row of bytes that came in. -/
structure BR where
  a : Option Addr
  l : List Int
  c : Nat
instance : Inhabited BR := ⟨⟨none, [], 0⟩⟩
def BR.v (r : BR) : Value := .slice r.a r.l.length r.c
structure BR.At (w : World) (r : BR) : Prop where
  rd : ReadsInt w .u8 r.a r.l.length r.l
  by_ : Bytes r.l
  cp : r.l.length ≤ r.c
theorem reads_lt {w : World} {k : IntKind} {A : Option Addr} {n : Nat} {xs : List Int} (h : ReadsInt w k A n xs) (h0 : 0 < n) : ∀ ad, A = some ad → ad.block < w.heap.size := by
  obtain ⟨ad, hA, hc⟩ := h.2.2 h0
  intro ad' e
  rw [hA] at e
  injection e with e
  subst e
  have := hc 0 h0
  have h2 := World.block_lt_of_cell? _ _ this
  have e2 : (ad.add 0).block = ad.block := by unfold Addr.add; split <;> rfl
  rwa [e2] at h2
theorem BR.At.below {w0 w : World} {r : BR} (h : r.At w0) (hB : Below w0.heap.size w0 w) : r.At w := ⟨reads_below8 h.rd hB, h.by_, h.cp⟩
set_option maxRecDepth 100000 in
theorem open_br {H : Type} {enc : TypeId × Value → H} {W : World} {fuel : Nat} {v : Value} {x : DataW H × List MemPlace} (h : DataW.trod enc Try.prog W 0 (fun _ => true) true fuel 23 [v] = some x) : ∃ r : BR, v = r.v ∧ r.At W := by
  rcases open_ints Try.underlying23 Try.underlying5 (by kernel_rfl) h with ⟨hc, _⟩ | ⟨a, l, c, zs, hc, _, hl, hm, hz, _, hcell, hwz⟩
  · simp only [List.cons.injEq, and_true] at hc
    subst hc
    exact ⟨⟨none, [], 0⟩, rfl, ⟨⟨rfl, by simp, fun h => absurd h (Nat.lt_irrefl 0)⟩, fun x hx => (by cases hx), Nat.le_refl _⟩⟩
  · simp only [List.cons.injEq, and_true] at hc
    subst hc
    simp only [if_true] at hz
    have hlen : (zs.take l).length = l := by rw [List.length_take]; omega
    refine ⟨⟨some a, zs.take l, c⟩, by unfold BR.v; rw [hlen], ⟨⟨rfl, by rw [hlen]; unfold maxLen at hm; omega, fun _ => ⟨a, rfl, fun j hj => ?_⟩⟩, fun n hn => wf_byte (hwz n (List.mem_of_mem_take hn)), by show (zs.take l).length ≤ c; omega⟩⟩
    rw [hlen] at hj
    rw [hcell j (by omega)]
    simp [List.getD_eq_getElem?_getD, List.getElem?_take, hj]
def RowsAt (w : World) (A : Option Addr) (rs : List BR) : Prop := ∀ i (h : i < rs.length), ∃ ad, A = some ad ∧ w.cell? (ad.add i) = some rs[i].v ∧ rs[i].At w
set_option maxRecDepth 100000 in
theorem open_rows {H : Type} {enc : TypeId × Value → H} {W : World} {base : Nat} {v : Value} {d : DataW H} {p : List MemPlace} (hv : Value.okWide Try.prog W .any base 67 v)
    (h : DataW.Trod enc Try.prog W 0 (fun _ => true) true 67 v d p) :
    ∃ (A : Option Addr) (rs : List BR) (c : Nat), v = .slice A rs.length c ∧ RowsAt W A rs ∧ (∀ r ∈ rs, r.At W) ∧ rs.length ≤ 9223372036854775807 := by
  obtain ⟨a0, len0, cap0, rfl⟩ := okWide_slice Try.underlying67 hv
  obtain ⟨fuel, hf⟩ := h
  rcases open_slice1 Try.underlying67 (by kernel_rfl) hf with ⟨hc, _⟩ | ⟨a, len, cap, m, n, V, D, Pl, hc, _, hl, hm, hmm, _, hi⟩
  · simp [Value.cells] at hc
    obtain ⟨rfl, rfl, rfl⟩ := hc
    exact ⟨none, [], 0, rfl, fun i h => (by cases h), fun r hr => (by cases hr), by simp⟩
  · simp [Value.cells] at hc
    obtain ⟨rfl, rfl, rfl⟩ := hc
    simp only [if_true] at hmm
    have each : ∀ i, i < len0 → ∃ r : BR, W.cell? (a.add i) = some r.v ∧ r.At W := by
      intro i hi0
      obtain ⟨h1, h2⟩ := hi i (by omega)
      obtain ⟨r, hr, hA⟩ := open_br h2
      exact ⟨r, by rw [h1, hr], hA⟩
    obtain ⟨f, hf2⟩ := choose_lt each
    refine ⟨some a, (List.range len0).map f, cap0, by simp, fun i h => ⟨a, rfl, ?_⟩, ?_, by unfold maxLen at hm; simp; omega⟩
    · have hi' : i < len0 := by simpa using h
      simpa using hf2 i hi'
    · intro r hr
      obtain ⟨i, hi, rfl⟩ := List.mem_map.1 hr
      exact (hf2 i (List.mem_range.1 hi)).2
/-- A call of the laws on stores. -/
structure PO where
  kind : Int
  at_ : Int
  n : Int
  torn : Int
  sort : Int
  r : BR
instance : Inhabited PO := ⟨⟨0, 0, 0, 0, 0, default⟩⟩
def PO.cells (o : PO) : Array Value := #[.int .i64 o.kind, .int .i64 o.at_, .int .i64 o.n, .int .i64 o.torn, .int .u8 o.sort, o.r.v]
structure PO.Ok (w : World) (o : PO) : Prop where
  row : o.r.At w
  sort : 0 ≤ o.sort ∧ o.sort ≤ 255
  n : o.n ≤ 9223372036854775807
def PopsAt (w : World) (A : Option Addr) (ops : List PO) : Prop := ops = [] ∨ ∃ b o, A = some ⟨b, o, none⟩ ∧ b < w.heap.size ∧ ∀ i (h : i < ops.length), w.rangeAt b (o + i * 6) ops[i].cells.toList
set_option maxRecDepth 100000 in
theorem open_pops {H : Type} {enc : TypeId × Value → H} {W : World} {base : Nat} {v : Value} {d : DataW H} {p : List MemPlace} (hv : Value.okWide Try.prog W .any base 50 v)
    (h : DataW.Trod enc Try.prog W 0 (fun _ => true) true 50 v d p) :
    ∃ (A : Option Addr) (ops : List PO) (c : Nat), v = .slice A ops.length c ∧ PopsAt W A ops ∧ (∀ o ∈ ops, o.Ok W) ∧ ops.length ≤ 9223372036854775807 := by
  obtain ⟨a0, len0, cap0, rfl⟩ := okWide_slice Try.underlying50 hv
  obtain ⟨fuel, hf⟩ := h
  rcases open_slice_fields Try.underlying50 Try.underlying60 (by kernel_rfl) (by kernel_rfl) hf with ⟨hc, _⟩ | ⟨a, len, cap, m, D, Pl, hc, _, hl, hm, hmm, _, hi⟩
  · simp [Value.cells] at hc
    obtain ⟨rfl, rfl, rfl⟩ := hc
    exact ⟨none, [], 0, rfl, .inl rfl, fun o ho => (List.not_mem_nil ho).elim, by simp⟩
  · simp [Value.cells] at hc
    obtain ⟨rfl, rfl, rfl⟩ := hc
    simp only [if_true] at hmm
    have each : ∀ i, i < len0 → ∃ o : PO, o.Ok W ∧ ∀ j u, o.cells[j]? = some u → W.cell? (a.add (i * 6 + j)) = some u := by
      intro i hi0
      obtain ⟨ys, n, _, _, _, hF⟩ := hi i (by omega)
      obtain ⟨v0, y0, c0, _, t0⟩ := hF 0 _ rfl
      obtain ⟨v1, y1, c1, _, t1⟩ := hF 1 _ rfl
      obtain ⟨v2, y2, c2, _, t2⟩ := hF 2 _ rfl
      obtain ⟨v3, y3, c3, _, t3⟩ := hF 3 _ rfl
      obtain ⟨v4, y4, c4, _, t4⟩ := hF 4 _ rfl
      obtain ⟨v5, y5, c5, _, t5⟩ := hF 5 _ rfl
      obtain ⟨n0, e0, _, _⟩ := DataW.trod_int Try.underlying3 t0
      obtain ⟨n1, e1, _, _⟩ := DataW.trod_int Try.underlying3 t1
      obtain ⟨n2, e2, _, w2⟩ := DataW.trod_int Try.underlying3 t2
      obtain ⟨n3, e3, _, _⟩ := DataW.trod_int Try.underlying3 t3
      obtain ⟨n4, e4, _, w4⟩ := DataW.trod_int Try.underlying5 t4
      obtain ⟨r, hr, hA⟩ := open_br t5
      simp only [List.cons.injEq, and_true] at e0 e1 e2 e3 e4
      subst e0; subst e1; subst e2; subst e3; subst e4; subst hr
      refine ⟨⟨n0, n1, n2, n3, n4, r⟩, ⟨hA, wf_byte w4, wf_i64 w2⟩, ?_⟩
      intro j u hu
      rcases j with _ | _ | _ | _ | _ | _ | j
      · cases hu; exact c0
      · cases hu; exact c1
      · cases hu; exact c2
      · cases hu; exact c3
      · cases hu; exact c4
      · cases hu; exact c5
      · simp [PO.cells] at hu
    obtain ⟨f, hf2⟩ := choose_lt each
    refine ⟨some a, (List.range len0).map f, cap0, by simp, ?_, ?_, by unfold maxLen at hm; simp; omega⟩
    · rcases Nat.eq_zero_or_pos len0 with h0 | h0
      · subst h0; exact .inl rfl
      · obtain ⟨b, o, spot⟩ := a
        have h1 := (hf2 0 h0).2 0 _ rfl
        have hspot : spot = none := by simpa [Addr.add] using World.cell?_spot h1
        subst hspot
        refine .inr ⟨b, o, rfl, World.block_lt_of_cell? _ _ h1, fun i hi j u hu => ?_⟩
        have hi' : i < len0 := by simpa using hi
        have h2 := (hf2 i hi').2 j u (by simpa using hu)
        rw [Nat.add_assoc]
        simpa [Addr.add_lit] using h2
    · intro o ho
      obtain ⟨i, hi, rfl⟩ := List.mem_map.1 ho
      exact (hf2 i (List.mem_range.1 hi)).1
end Go.Proofs.Ytlmdghafiadgjaa
