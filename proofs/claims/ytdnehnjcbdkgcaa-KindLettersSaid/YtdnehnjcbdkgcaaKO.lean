/- Kinds as arguments, opened: by the recipes of the kit's paper on structs (its plain theorem open_slice_fields is pasted as that paper bids). -/
import Derived.Test.YtdnehnjcbdkgcaaKLR
import Derived.Test.YtdnehnjcbdkgcaaK15
import Derived.Deep.Slices
import Derived.Deep.Fields
import Derived.ChangeSame
import Derived.OpenShut
import Derived.Lib.SmallJoins
import Derived.SizedLaws
namespace Go.Proofs.Ytdnehnjcbdkgcaa
set_option linter.unusedVariables false
set_option linter.unusedSimpArgs false
open Go.ChangeShapes Go.WideShapes Go.RowKit Go.Deep Go.Proofs.YtdnehnjcbdkgcaaW.PrintWords PKindReads
section
variable {H : Type} {enc : TypeId × Value → H} {P : Program} {w : World} {base : Nat} {spare : Nat → Bool} {held : Bool}
theorem open_slice_fields {t e : TypeId} {fs : Array Field} {fuel : Nat} {cs : List Value} {x : DataW H × List MemPlace} (ht : P.underlying t = some (.slice e)) (he : P.underlying e = some (.struct fs))
    (hone : oneCellFields P fs = true) (hC : P.cellsOf e = fs.size) (h : DataW.trod enc P w base spare held fuel t cs = some x) :
    (cs = [.slice none 0 0] ∧ x = (.nil, [])) ∨
    ∃ (a : Addr) (len cap m : Nat) (D : Nat → DataW H) (Pl : Nat → List MemPlace), cs = [.slice (some a) len cap] ∧ base ≤ a.block ∧ len ≤ cap ∧ cap ≤ maxLen ∧ m = (if spare a.block then cap else len) ∧
      x = (.slice ((List.range len).map D) ((List.range (m - len)).map fun j => D (len + j)), MemPlace.row a (m * fs.size) ++ (List.range m).flatMap Pl) ∧
      ∀ i, i < m → ∃ (ys : List (DataW H × List MemPlace)) (n : Nat), D i = .agg (ys.map (·.1)) ∧ Pl i = ys.flatMap (·.2) ∧ ys.length = fs.size ∧
        ∀ (j : Nat) (f : Field), fs[j]? = some f → ∃ (v : Value) (y : DataW H × List MemPlace), w.cell? (a.add (i * fs.size + j)) = some v ∧ ys[j]? = some y ∧ DataW.trod enc P w base spare held n f.type [v] = some y := by
  rcases open_slice ht h with h0 | ⟨a, len, cap, m, n, D, Pl, hcs, hb, hl, hm, hmm, hx, hi⟩
  · exact .inl h0
  · refine .inr ⟨a, len, cap, m, D, Pl, hcs, hb, hl, hm, hmm, by rw [hC] at hx; exact hx, fun i him => ?_⟩
    obtain ⟨cs', hc, ht'⟩ := hi i him
    rw [hC] at hc
    obtain ⟨ys, n', hn', hy, hlen, hyl, hf⟩ := DataW.trod_struct he ht'
    obtain ⟨_, hcl, hat⟩ := World.cells?_some hc
    simp only [Prod.mk.injEq] at hy
    refine ⟨ys, n', hy.1, hy.2, hyl, fun j f hj => ?_⟩
    obtain ⟨ho, hk⟩ := hone_of hone j f hj
    have hjl : j < fs.size := (Array.getElem?_eq_some_iff.1 hj).1
    have hcell := hat j hjl
    have hv : cs'[j]? = some (cs'[j]'(by omega)) := List.getElem?_eq_getElem (by omega)
    have h1 := hf j f hj
    rw [ho, hk] at h1
    have hone' : (cs'.drop j).take 1 = [cs'[j]'(by omega)] := by
      rw [List.drop_eq_getElem_cons (by omega)]
      rfl
    rw [hone'] at h1
    have hys : ys[j]? = some (ys[j]'(by omega)) := List.getElem?_eq_getElem (by omega)
    refine ⟨_, _, ?_, hys, h1.trans hys⟩
    rw [← Go.Deep.add_add, hcell, hv]
theorem weights_mem_all {e : TypeId} {n : Nat} {d : DataW H} : ∀ {elems : List (DataW H)}, d ∈ elems → n ∈ d.weights P e → n ∈ DataW.weightsAll P e elems
  | [], h, _ => by cases h
  | x :: r, h, hn => by
    simp only [DataW.weightsAll, List.mem_append]
    rcases List.mem_cons.1 h with rfl | h
    · exact .inl hn
    · exact .inr (weights_mem_all h hn)
end
theorem reach_num {n : Nat} (h : n ≤ reachBytes) : n ≤ 140737488351232 := h
theorem info_param3 : Try.prog.cellsOf 42 = 2 ∧ Try.prog.bytesOf 42 = 32 := by constructor <;> kernel_rfl
/-- Two texts. -/
theorem open_params {H : Type} {enc : TypeId × Value → H} {W : World} {fuel : Nat} {v : Value} {x : DataW H × List MemPlace} (h : DataW.trod enc Try.prog W 0 (fun _ => true) true fuel 23 [v] = some x)
    (hsz : ∀ n ∈ x.1.weights Try.prog 23, n ≤ reachBytes) :
    ∃ (ps : List Pm) (A : Option Addr) (c : Nat), v = .slice A ps.length c ∧ PRow W A ps ∧ ps.length ≤ c ∧ ps.length ≤ 140737488351232 ∧ ∀ p ∈ ps, (Bytes p.1 ∧ p.1.length ≤ 140737488351232) ∧ (Bytes p.2 ∧ p.2.length ≤ 140737488351232) := by
  rcases open_slice_fields Try.underlying23 Try.underlying42 (by kernel_rfl) (by kernel_rfl) h with ⟨hc, _⟩ | ⟨a, len, cap, m, D, Pl, hc, _, hl, hm, hmm, hx, hi⟩
  · simp at hc
    subst hc
    exact ⟨[], none, 0, rfl, PRow.nil W, Nat.le_refl _, by simp, fun p hp => by cases hp⟩
  · simp at hc
    subst hc
    simp only [if_true] at hmm
    subst hmm
    have each : ∀ i, i < len → ∃ p : Pm, ((Bytes p.1 ∧ p.1.length ≤ 140737488351232) ∧ (Bytes p.2 ∧ p.2.length ≤ 140737488351232)) ∧ W.cell? (a.add (i * 2 + 0)) = some (.string (St p.1)) ∧ W.cell? (a.add (i * 2 + 1)) = some (.string (St p.2)) := by
      intro i hi0
      obtain ⟨ys, n, hD, _, hyl, hF⟩ := hi i (by omega)
      obtain ⟨v0, y0, c0, g0, t0⟩ := hF 0 _ rfl
      obtain ⟨v1, y1, c1, g1, t1⟩ := hF 1 _ rfl
      obtain ⟨s0, e0, q0, _⟩ := DataW.trod_string Try.underlying9 t0
      obtain ⟨s1, e1, q1, _⟩ := DataW.trod_string Try.underlying9 t1
      simp only [List.cons.injEq, and_true] at e0 e1
      subst e0; subst e1
      have hw : ∀ (j : Nat) (s : ByteArray) (pl : List MemPlace), ys[j]? = some (.lit (.string s.data.toList), pl) → [9, 9][j]? = some 9 → s.size ≤ reachBytes := by
        intro j s pl hj ht
        have h1 : s.data.toList.length ∈ DataW.weightsEach Try.prog [9, 9] (ys.map (·.1)) :=
          DataW.weights_mem_each ht (by rw [List.getElem?_map, hj]; rfl) _ (by simp [DataW.weights])
        have h2 : s.data.toList.length ∈ (D i).weights Try.prog 42 := by
          rw [hD]
          simp only [DataW.weights, Try.underlying42]
          exact h1
        have h3 : s.data.toList.length ∈ x.1.weights Try.prog 23 := by
          rw [hx]
          simp only [DataW.weights, Try.underlying23, List.mem_cons, List.mem_append]
          exact .inr (.inl (weights_mem_all (List.mem_map.2 ⟨i, List.mem_range.2 hi0, rfl⟩) h2))
        have := hsz _ h3
        rwa [Array.length_toList] at this
      have w0 := hw 0 s0 _ (g0.trans (congrArg some q0)) rfl
      have w1 := hw 1 s1 _ (g1.trans (congrArg some q1)) rfl
      refine ⟨(bytesOf s0, bytesOf s1), ⟨⟨bytesOf_bytes s0, by rw [bytesOf_length]; exact reach_num w0⟩, ⟨bytesOf_bytes s1, by rw [bytesOf_length]; exact reach_num w1⟩⟩, ?_, ?_⟩
      · rw [St_bytesOf]; exact c0
      · rw [St_bytesOf]; exact c1
    obtain ⟨f, hf⟩ := choose_lt each
    have hlen : len ≤ 140737488351232 := by
      have h3 : (((List.range len).map D).length + ((List.range (m - len)).map fun j => D (len + j)).length) * Try.prog.bytesOf 42 ∈ x.1.weights Try.prog 23 := by
        rw [hx]
        simp only [DataW.weights, Try.underlying23]
        exact List.mem_cons_self
      have h4 := reach_num (hsz _ h3)
      rw [info_param3.2, List.length_map, List.length_range] at h4
      omega
    refine ⟨(List.range len).map f, some a, m, by simp, ?_, by simpa using hl, by simpa using hlen, ?_⟩
    · refine ⟨by simp, by simp; omega, fun _ => ⟨a, rfl, fun j p hp => ?_⟩⟩
      rw [List.getElem?_map, List.getElem?_map] at hp
      have hj : j < len := by
        rcases Nat.lt_or_ge j len with h | h
        · exact h
        · rw [List.getElem?_eq_none (by simpa using h)] at hp; cases hp
      rw [List.getElem?_range hj] at hp
      simp only [Option.map_some, Option.some.injEq] at hp
      subst hp
      refine ⟨_, rfl, k42_mk W (toS (f j)), fun i u hu => ?_⟩
      rcases i with _ | _ | i
      · cases hu; exact (hf j hj).2.1
      · cases hu; exact (hf j hj).2.2
      · simp at hu
    · intro p hp
      obtain ⟨i, hi, rfl⟩ := List.mem_map.1 hp
      exact (hf i (List.mem_range.1 hi)).1
theorem open_kind {H : Type} {enc : TypeId × Value → H} {W : World} {base : Nat} {v : Value} {d : DataW H} {p : List MemPlace} {ts : List TypeId} {ds : List (DataW H)} (hsz : (DataW.weightsEach Try.prog ts ds).all (· ≤ reachBytes) = true) (j : Nat) (hts : ts[j]? = some 25) (hds : ds[j]? = some d)
    (hv : Value.okWide Try.prog W .any base 25 v) (h : DataW.Trod enc Try.prog W 0 (fun _ => true) true 25 v d p) :
    ∃ (t s : List Int) (ps : List Pm) (A : Option Addr) (c : Nat), v = .agg #[.string (St t), .string (St s), .slice A ps.length c] ∧ PRow W A ps ∧ ps.length ≤ c ∧ GOk t s ps := by
  have hall : ∀ n ∈ d.weights Try.prog 25, n ≤ reachBytes := fun n hn => by
    have := List.all_eq_true.1 hsz _ (DataW.weights_mem_each hts hds n hn)
    simpa using this
  obtain ⟨cs, rfl, hcs⟩ := okWide_struct Try.underlying25 hv
  obtain ⟨l⟩ := cs
  have hC : Try.prog.cellsOf 25 = 3 := by kernel_rfl
  match l, hcs.trans hC with
  | [v0, v1, v2], _ =>
    obtain ⟨fuel, hf⟩ := h
    obtain ⟨xs, n, _, hx, _, hlen, hg⟩ := DataW.trod_struct Try.underlying25 hf
    have hone : oneCellFields Try.prog (Try.prog.fieldsOf 25) = true := by kernel_rfl
    match xs, hlen with
    | [y0, y1, y2], _ =>
      have t0 : DataW.trod enc Try.prog W 0 (fun _ => true) true n 9 [v0] = some y0 := hg 0 _ rfl
      have t1 : DataW.trod enc Try.prog W 0 (fun _ => true) true n 9 [v1] = some y1 := hg 1 _ rfl
      have t2 : DataW.trod enc Try.prog W 0 (fun _ => true) true n 23 [v2] = some y2 := hg 2 _ rfl
      simp only [Prod.mk.injEq] at hx
      have hd := hx.1
      have hw : ∀ (j : Nat) (t : TypeId) (y : DataW H × List MemPlace), [9, 9, 23][j]? = some t → [y0, y1, y2][j]? = some y → ∀ n ∈ y.1.weights Try.prog t, n ≤ reachBytes := by
        intro j t y ht hy n hn
        refine hall n ?_
        rw [hd]
        simp only [DataW.weights, Try.underlying25]
        exact DataW.weights_mem_each (ts := [9, 9, 23]) ht (by rw [List.getElem?_map, hy]; rfl) n hn
      obtain ⟨ps, A, c, rfl, hP, hc, hl, hps⟩ := open_params t2 (hw 2 _ y2 rfl rfl)
      obtain ⟨s0, e0, q0, _⟩ := DataW.trod_string Try.underlying9 t0
      obtain ⟨s1, e1, q1, _⟩ := DataW.trod_string Try.underlying9 t1
      simp only [List.cons.injEq, and_true] at e0 e1
      subst e0; subst e1
      have w0 := hw 0 _ y0 rfl rfl s0.data.toList.length (by rw [q0]; simp [DataW.weights])
      have w1 := hw 1 _ y1 rfl rfl s1.data.toList.length (by rw [q1]; simp [DataW.weights])
      rw [Array.length_toList] at w0 w1
      exact ⟨bytesOf s0, bytesOf s1, ps, A, c, by rw [St_bytesOf, St_bytesOf], hP, hc, ⟨bytesOf_bytes s0, bytesOf_bytes s1, by rw [bytesOf_length]; exact reach_num w0, by rw [bytesOf_length]; exact reach_num w1, hl, hps⟩⟩
end Go.Proofs.Ytdnehnjcbdkgcaa
