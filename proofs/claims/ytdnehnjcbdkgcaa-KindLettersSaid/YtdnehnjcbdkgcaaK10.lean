/- kind: Get, Is, Same and Great, in plain terms. -/
import Derived.Test.YtdnehnjcbdkgcaaK9
import Derived.Test.YtdnehnjcbdkgcaaKG
namespace Go.Proofs.Ytdnehnjcbdkgcaa
set_option linter.unusedVariables false
set_option linter.unusedSimpArgs false
open Go.RowKit Go.Shelf Go.Proofs.YtdnehnjcbdkgcaaW.PrintWords PKindReads

theorem St_tl {a b : List Int} (ha : Bytes a) (hb : Bytes b) : (St a).toList = (St b).toList ↔ a = b := by
  have h := St_beq ha hb
  constructor
  · intro e
    rw [e] at h
    simpa using h.symm
  · rintro rfl; rfl
def PsB (ps : List Pm) : Prop := ∀ p ∈ ps, Bytes p.1 ∧ Bytes p.2
theorem rd_toS (ps : List Pm) (i : Nat) (h : i < ps.length) : rd_T42 (ps.map toS) (i : Int) = toS ps[i] := by simp [rd_T42, h]
def getR : List Pm → List Int → List Int × Bool
  | [], _ => ([], false)
  | p :: ps, n => if p.1 = n then (p.2, true) else getR ps n
theorem get_ev (ps : List Pm) (n : List Int) (hp : PsB ps) (hn : Bytes n) (hl : ps.length ≤ 4294967296) : ∀ m i : Nat, i + m = ps.length → Ev (fun k => kind_Get.l0 k (St n) (ps.map toS) ((ps.map toS).length : Int) (i : Int)) (St (getR (ps.drop i) n).1, (getR (ps.drop i) n).2) := by
  intro m
  induction m with
  | zero =>
    intro i hi
    refine Ev.step (by intro k; rw [kind_Get.l0]) ?_
    rw [List.length_map]
    refine Ev.neg (by omega) ?_
    rw [List.drop_eq_nil_of_le (by omega)]
    exact Ev.done _
  | succ m ih =>
    intro i hi
    have hlt : i < ps.length := by omega
    refine Ev.step (by intro k; rw [kind_Get.l0]) ?_
    have ih2 := ih (i + 1) (by omega)
    rw [List.length_map] at ih2 ⊢
    refine Ev.pos (by omega) ?_
    refine Ev.pos (by omega) ?_
    refine Ev.pos (by omega) ?_
    rw [rd_toS ps i hlt, List.drop_eq_getElem_cons hlt, getR]
    have hq := St_tl (hp _ (List.getElem_mem hlt)).1 hn
    by_cases h : ps[i].1 = n
    · rw [if_pos h]
      exact Ev.pos (hq.2 h) (Ev.done _)
    · rw [if_neg h]
      refine Ev.neg (fun e => h (hq.1 e)) ?_
      rw [wrap64_id _ (by omega) (by omega)]
      exact ih2
theorem get_any (t s n : List Int) (ps : List Pm) (A : Option Addr) (c : Nat) (w : World) (hp : PsB ps) (hn : Bytes n) (hl : ps.length ≤ 4294967296) (hP : PRow w A ps) (hc : ps.length ≤ c) :
    Calls Try.prog 15 #[.agg #[.string (St t), .string (St s), .slice A ps.length c], .string (St n)] w fun e w' => e = .returned (.tuple #[.string (St (getR ps n).1), .bool (getR ps n).2]) ∧ Below w.heap.size w w' := by
  obtain ⟨k, hk⟩ := (get_ev ps n hp hn hl ps.length 0 (by omega)).get
  have h := kind_Get.calls k (St t) (St s) A c (ps.map toS) (St n) _ _ w (by rw [List.length_map]; exact hP) (by rw [List.length_map]; exact hc) hk
  rwa [List.length_map] at h
theorem is_any (t s x : List Int) (ps : List Pm) (A : Option Addr) (c : Nat) (w : World) (ht : Bytes t) (hs : Bytes s) (hx : Bytes x) (hl : t.length + s.length ≤ 4611686018427387904) (hP : PRow w A ps) (hc : ps.length ≤ c) :
    Calls Try.prog 19 #[.agg #[.string (St t), .string (St s), .slice A ps.length c], .string (St x)] w fun e w' => e = .returned (.bool (decide (t ++ [47] ++ s = x))) ∧ Below w.heap.size w w' := by
  have e1 : (⟨#[47]⟩ : ByteArray) = St [47] := rfl
  have hb : Bytes (t ++ [47] ++ s) := fun y hy => by
    rcases List.mem_append.1 hy with hy | hy
    · rcases List.mem_append.1 hy with hy | hy
      · exact ht y hy
      · rw [List.mem_singleton.1 hy]; omega
    · exact hs y hy
  have h := kind_Is.calls (St t) (St s) A c (ps.map toS) (St x) (decide (t ++ [47] ++ s = x)) w (by rw [List.length_map]; exact hP) (by rw [List.length_map]; exact hc) (by
    unfold kind_Is.f
    rw [e1, St_append, St_append, St_size, St_size, St_size, if_pos (by omega), if_pos (by simp; omega), St_beq hb hx])
  rwa [List.length_map] at h
theorem sameP_ev (ps qs : List Pm) (hp : PsB ps) (hq : PsB qs) (hl : ps.length ≤ 4294967296) (hle : ps.length = qs.length) : ∀ m i : Nat, i + m = ps.length → Ev (fun k => posthornref08_SameParams.l0 k (ps.map toS) (qs.map toS) (i : Int)) (decide (ps.drop i = qs.drop i)) := by
  intro m
  induction m with
  | zero =>
    intro i hi
    refine Ev.step (by intro k; rw [posthornref08_SameParams.l0]) ?_
    rw [List.length_map]
    refine Ev.neg (by omega) ?_
    rw [List.drop_eq_nil_of_le (by omega), List.drop_eq_nil_of_le (by omega)]
    exact Ev.done _
  | succ m ih =>
    intro i hi
    have hlt : i < ps.length := by omega
    have hlt2 : i < qs.length := by omega
    refine Ev.step (by intro k; rw [posthornref08_SameParams.l0]) ?_
    have ih2 := ih (i + 1) (by omega)
    rw [List.length_map, List.length_map]
    refine Ev.pos (by omega) ?_
    refine Ev.pos (by omega) ?_
    refine Ev.pos (by omega) ?_
    rw [rd_toS ps i hlt, rd_toS qs i hlt2, List.drop_eq_getElem_cons hlt, List.drop_eq_getElem_cons hlt2]
    have b1 := hp _ (List.getElem_mem hlt)
    have b2 := hq _ (List.getElem_mem hlt2)
    have e1 := St_beq b1.1 b2.1
    have e2 := St_beq b1.2 b2.2
    by_cases h : ps[i] = qs[i]
    · refine Ev.neg (by rw [h]; simp) ?_
      rw [wrap64_id _ (by omega) (by omega), show decide (ps[i] :: ps.drop (i + 1) = qs[i] :: qs.drop (i + 1)) = decide (ps.drop (i + 1) = qs.drop (i + 1)) by rw [h, decide_eq_decide]; exact ⟨fun e => (List.cons.inj e).2, fun e => by rw [e]⟩]
      exact ih2
    · refine Ev.pos ?_ ?_
      · rcases Decidable.em (ps[i].1 = qs[i].1) with h1 | h1
        · have h2 : ps[i].2 ≠ qs[i].2 := fun h2 => h (Prod.ext h1 h2)
          simp only [toS]
          rw [e2, decide_eq_false h2]; simp
        · simp only [toS]
          rw [e1, decide_eq_false h1]; simp
      · rw [decide_eq_false (fun e => h (List.cons.inj e).1)]
        exact Ev.done _
theorem same_any (t s t' s' : List Int) (ps qs : List Pm) (A A' : Option Addr) (c c' : Nat) (w : World) (ht : Bytes t) (hs : Bytes s) (ht' : Bytes t') (hs' : Bytes s') (hp : PsB ps) (hq : PsB qs) (hl : ps.length ≤ 4294967296) (hP : PRow w A ps) (hc : ps.length ≤ c) (hP' : PRow w A' qs) (hc' : qs.length ≤ c') :
    Calls Try.prog 11 #[.agg #[.string (St t), .string (St s), .slice A ps.length c], .agg #[.string (St t'), .string (St s'), .slice A' qs.length c']] w fun e w' => e = .returned (.bool (decide ((t, s, ps) = (t', s', qs)))) ∧ Below w.heap.size w w' := by
  have hev : Ev (fun k => posthornref08_Same.f k (St t) (St s) (ps.map toS) (St t') (St s') (qs.map toS)) (decide ((t, s, ps) = (t', s', qs))) := by
    refine Ev.of (by funext k; rw [posthornref08_Same.f]) ?_
    by_cases h1 : t = t'
    · refine Ev.pos ((St_tl ht ht').2 h1) ?_
      by_cases h2 : s = s'
      · refine Ev.pos ((St_tl hs hs').2 h2) ?_
        have h3 : Ev (fun k => posthornref08_SameParams.f k (ps.map toS) (qs.map toS)) (decide (ps = qs)) := by
          refine Ev.of (by funext k; rw [posthornref08_SameParams.f]) ?_
          rw [List.length_map, List.length_map]
          by_cases hle : ps.length = qs.length
          · refine Ev.pos (by omega) ?_
            simpa using sameP_ev ps qs hp hq hl hle ps.length 0 (by omega)
          · refine Ev.neg (by omega) ?_
            rw [decide_eq_false (fun e => hle (by rw [e]))]
            exact Ev.done _
        refine Ev.bind h3 ?_
        rw [show decide ((t, s, ps) = (t', s', qs)) = decide (ps = qs) by rw [h1, h2]; simp]
        exact Ev.done _
      · refine Ev.neg (fun e => h2 ((St_tl hs hs').1 e)) ?_
        rw [decide_eq_false (fun e => h2 (by injection e with _ e; injection e))]
        exact Ev.done _
    · refine Ev.neg (fun e => h1 ((St_tl ht ht').1 e)) ?_
      rw [decide_eq_false (fun e => h1 (by injection e))]
      exact Ev.done _
  obtain ⟨k, hk⟩ := hev.get
  have h := posthornref08_Same.calls k (St t) (St s) A c (ps.map toS) (St t') (St s') A' c' (qs.map toS) _ w (by rw [List.length_map]; exact hP) (by rw [List.length_map]; exact hc) (by rw [List.length_map]; exact hP') (by rw [List.length_map]; exact hc') hk
  rwa [List.length_map, List.length_map] at h
end Go.Proofs.Ytdnehnjcbdkgcaa
