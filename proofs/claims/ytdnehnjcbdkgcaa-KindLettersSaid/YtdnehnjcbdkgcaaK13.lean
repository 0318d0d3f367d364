/- kind.Write: plain. -/
import Derived.Test.YtdnehnjcbdkgcaaK12
namespace Go.Proofs.Ytdnehnjcbdkgcaa
set_option linter.unusedVariables false
set_option linter.unusedSimpArgs false
open Go.RowKit Go.Shelf Go.Proofs.YtdnehnjcbdkgcaaW.PrintWords

def escC (c : Int) : List Int := if c = 34 ∨ c = 92 then [92, c] else [c]
def escL (v : List Int) : List Int := v.flatMap escC
def valW (v : List Int) : List Int := if tokenB v = true then v else [34] ++ escL v ++ [34]
def parW (p : Pm) : List Int := [59, 32] ++ p.1 ++ [61] ++ valW p.2
def writeL (t s : List Int) (ps : List Pm) : List Int := t ++ [47] ++ s ++ ps.flatMap parW
theorem escC_len (c : Int) : (escC c).length ≤ 2 := by unfold escC; split <;> simp
theorem escL_len (v : List Int) : (escL v).length ≤ 2 * v.length := by
  induction v with
  | nil => simp [escL]
  | cons c v ih =>
    have := escC_len c
    simp only [escL, List.flatMap_cons, List.length_append, List.length_cons] at ih ⊢
    omega
theorem escL_succ (v : List Int) (j : Nat) (h : j < v.length) : escL (v.take (j + 1)) = escL (v.take j) ++ escC (rd v (j : Int)) := by
  rw [take_succ_rd v j h]; simp [escL]
theorem valW_len (v : List Int) : (valW v).length ≤ 2 * v.length + 2 := by
  have := escL_len v
  unfold valW
  split
  · omega
  · simp; omega
theorem parW_len (p : Pm) : (parW p).length ≤ p.1.length + 2 * p.2.length + 5 := by
  have := valW_len p.2
  simp only [parW, List.length_append, List.length_cons, List.length_nil]; omega
theorem parsW_len (m : Nat) : ∀ ps : List Pm, (∀ p ∈ ps, p.1.length + 2 * p.2.length + 5 ≤ m) → (ps.flatMap parW).length ≤ ps.length * m
  | [], _ => by simp
  | p :: ps, h => by
    have h1 := parW_len p
    have h2 := h p List.mem_cons_self
    have h3 := parsW_len m ps (fun q hq => h q (List.mem_cons_of_mem _ hq))
    simp only [List.flatMap_cons, List.length_append, List.length_cons, Nat.add_mul, Nat.one_mul]
    omega
theorem tokenB_iff (l : List Int) : tokenB l = true ↔ (∀ c ∈ l, sgnB c = true) ∧ l ≠ [] ∧ l.length ≤ 64 := by
  unfold tokenB
  simp only [Bool.and_eq_true, List.all_eq_true, Bool.not_eq_true', decide_eq_true_eq, and_assoc]
  cases l <;> simp
theorem smallB_iff (l : List Int) : smallB l = true ↔ tokenB l = true ∧ lowL l = l := by
  unfold smallB
  simp only [Bool.and_eq_true, decide_eq_true_eq]
theorem valueB_len {l : List Int} (h : valueB l = true) : l.length ≤ 256 := by
  unfold valueB at h
  simp only [Bool.and_eq_true, decide_eq_true_eq] at h
  exact h.2
theorem parB_all : ∀ (ps : List Pm) (seen : List (List Int)), parB seen ps = true → ∀ p ∈ ps, smallB p.1 = true ∧ valueB p.2 = true
  | [], _, _, p, hp => by cases hp
  | q :: ps, seen, h, p, hp => by
    rw [parB_step] at h
    simp only [Bool.and_eq_true] at h
    rcases List.mem_cons.1 hp with rfl | hp
    · exact ⟨h.1, h.2.1⟩
    · exact parB_all ps _ h.2.2.2 p hp
structure RightIs (t s : List Int) (ps : List Pm) : Prop where
  t : smallB t = true
  s : smallB s = true
  n : ps.length ≤ 16
  p : ∀ q ∈ ps, smallB q.1 = true ∧ valueB q.2 = true
theorem right_is {t s : List Int} {ps : List Pm} (h : rightB t s ps = true) : RightIs t s ps := by
  unfold rightB at h
  simp only [Bool.and_eq_true, decide_eq_true_eq] at h
  exact ⟨h.2.1, h.2.2.1, h.2.2.2, parB_all ps [] h.1⟩
theorem small_len {l : List Int} (h : smallB l = true) : l.length ≤ 64 := ((tokenB_iff l).1 ((smallB_iff l).1 h).1).2.2
theorem write_len {t s : List Int} {ps : List Pm} (h : RightIs t s ps) (k : Nat) : (writeL t s (ps.take k)).length ≤ 10000 := by
  have h1 := small_len h.t
  have h2 := small_len h.s
  have h3 := parsW_len 581 (ps.take k) (fun p hp => by
    have hp := h.p p (List.mem_of_mem_take hp)
    have := small_len hp.1
    have := valueB_len hp.2
    omega)
  have h4 : (ps.take k).length ≤ 16 := Nat.le_trans (by rw [List.length_take]; omega) h.n
  have h5 : (ps.take k).length * 581 ≤ 16 * 581 := Nat.mul_le_mul_right _ h4
  simp only [writeL, List.length_append, List.length_cons, List.length_nil]
  omega
theorem write_succ (t s : List Int) (ps : List Pm) (k : Nat) (h : k < ps.length) : writeL t s (ps.take (k + 1)) = writeL t s (ps.take k) ++ parW ps[k] := by
  
  rw [take_succ_at ps k h]
  unfold writeL
  rw [List.flatMap_append]
  simp only [List.append_assoc, List.flatMap_cons, List.flatMap_nil, List.append_nil]
theorem bytes_app {a b : List Int} (ha : Bytes a) (hb : Bytes b) : Bytes (a ++ b) := fun x hx => (List.mem_append.1 hx).elim (ha x) (hb x)
theorem escL_bytes {v : List Int} (h : Bytes v) : Bytes (escL v) := by
  intro x hx
  obtain ⟨c, hc, hx⟩ := List.mem_flatMap.1 hx
  have := h c hc
  unfold escC at hx
  split at hx
  · simp only [List.mem_cons, List.not_mem_nil, or_false] at hx; omega
  · rw [List.mem_singleton.1 hx]; exact this
theorem one_bytes {c : Int} (h : 0 ≤ c ∧ c ≤ 255) : Bytes [c] := fun x hx => by rw [List.mem_singleton.1 hx]; exact h
theorem valW_bytes {v : List Int} (h : Bytes v) : Bytes (valW v) := by
  unfold valW
  split
  · exact h
  · exact bytes_app (bytes_app (one_bytes (by omega)) (escL_bytes h)) (one_bytes (by omega))
theorem parW_bytes {p : Pm} (h1 : Bytes p.1) (h2 : Bytes p.2) : Bytes (parW p) := by
  unfold parW
  exact bytes_app (bytes_app (bytes_app (show Bytes ([59] ++ [32]) from bytes_app (one_bytes (by omega)) (one_bytes (by omega))) h1) (one_bytes (by omega))) (valW_bytes h2)
theorem write_bytes {t s : List Int} {ps : List Pm} (h : KOk t s ps) : Bytes (writeL t s ps) := by
  unfold writeL
  refine bytes_app (bytes_app (bytes_app h.tb (one_bytes (by omega))) h.sb) fun x hx => ?_
  obtain ⟨p, hp, hx⟩ := List.mem_flatMap.1 hx
  exact parW_bytes (h.p1 p hp).1 (h.p2 p hp).1 x hx
theorem below_low {a b : Nat} {w w' : World} (h : Below b w w') (hab : a ≤ b) : Below a w w' := ⟨h.os, h.tape, h.output, h.size, fun i hi => h.block i (by omega)⟩
end Go.Proofs.Ytdnehnjcbdkgcaa
