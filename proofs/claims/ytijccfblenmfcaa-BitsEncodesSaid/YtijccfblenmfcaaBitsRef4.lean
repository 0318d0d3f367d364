/- The document's Decode, its great loop. -/
import Derived.Test.YtijccfblenmfcaaBitsRef3
namespace Go.Proofs.Ytijccfblenmfcaa
open Go.RowKit Go.Proofs.YtijccfblenmfcaaW.PrintWords

def six (x : Int) : List Int := [x / 32 % 2, x / 16 % 2, x / 8 % 2, x / 4 % 2, x / 2 % 2, x % 2]
section
open PBitsDecodes
variable (s : ByteArray) (b at_ d : List Int) (pad : Int) (i : Nat) (c q : Int) (r : List Int × Int × Int)

theorem it_10 (hi : i < b.length) (ha : i < at_.length) (hc : rd b (i : Int) = c) (hq : rd at_ (i : Int) = q) (hc0 : 0 ≤ c) (hc1 : c ≤ 255) (hv : valV c = -1) (h61 : c ≠ 61) : Ev (fun k => posthornref01_Decode.l0 k s b at_ d pad (i : Int)) ([], q, 10) := by
  refine Ev.step (by intro k; rw [posthornref01_Decode.l0]) ?_
  refine Ev.pos (by omega) ?_; refine Ev.pos (by omega) ?_
  rw [hc]
  refine Ev.bind (dvalue_ev c hc0 hc1) ?_
  rw [hv]
  refine Ev.pos (by decide) ?_
  rw [bne_iff_ne.mpr h61]
  refine Ev.step (by intro k; rw [posthornref01_Decode.j1]) ?_
  refine Ev.pos rfl ?_
  refine Ev.pos (by omega) ?_; refine Ev.pos (by omega) ?_
  rw [hq]
  exact Ev.done _
/-- Past the first question. -/
theorem it_j1 (hi : i < b.length) (hc : rd b (i : Int) = c) (hc0 : 0 ≤ c) (hc1 : c ≤ 255) (hv : ¬ (valV c = -1 ∧ c ≠ 61))
    (h : Ev (fun k => posthornref01_Decode.j1 k s b at_ d pad (i : Int) (valV c) false) r) : Ev (fun k => posthornref01_Decode.l0 k s b at_ d pad (i : Int)) r := by
  refine Ev.step (by intro k; rw [posthornref01_Decode.l0]) ?_
  refine Ev.pos (by omega) ?_; refine Ev.pos (by omega) ?_
  rw [hc]
  refine Ev.bind (dvalue_ev c hc0 hc1) ?_
  by_cases hn : valV c < 0
  · refine Ev.pos hn ?_
    have h61 : c = 61 := by
      rcases val_cases c hc0 hc1 with h1 | h1
      · exact Decidable.byContradiction fun h2 => hv ⟨h1, h2⟩
      · omega
    rw [show (c != 61) = false from bne_eq_false_iff_eq.mpr h61]
    exact h
  · refine Ev.neg hn ?_
    exact h
theorem it_11 (t : Int) (hi : i < b.length) (ha : i < at_.length) (hc : rd b (i : Int) = c) (hq : rd at_ (i : Int) = q) (he : (c = 61 ∧ i % 4 < 2) ∨ (c ≠ 61 ∧ 0 ≤ pad) ∨ (c = 61 ∧ 0 ≤ pad ∧ i % 4 = 2)) :
    Ev (fun k => posthornref01_Decode.j1 k s b at_ d pad (i : Int) t false) ([], q, 11) := by
  have H : Ev (fun k => posthornref01_Decode.j2 k s b at_ d pad (i : Int) t true) ([], q, 11) := by
    refine Ev.step (by intro k; rw [posthornref01_Decode.j2]) ?_
    refine Ev.pos rfl ?_
    refine Ev.pos (by omega) ?_; refine Ev.pos (by omega) ?_
    rw [hq]
    exact Ev.done _
  refine Ev.step (by intro k; rw [posthornref01_Decode.j1]) ?_
  refine Ev.neg (by decide) ?_
  refine Ev.pos (by omega) ?_; refine Ev.pos (by omega) ?_
  rw [hc, tmod_pos (i : Int) 4 (by omega)]
  by_cases h61 : c = 61
  · refine Ev.pos h61 ?_
    by_cases h2 : (i : Int) % 4 < 2
    · refine Ev.pos h2 ?_; exact H
    · refine Ev.neg h2 ?_
      refine Ev.pos (by omega) ?_
      rw [show ((i : Int) % 4 == 2) = true from beq_iff_eq.mpr (by omega)]
      exact H
  · refine Ev.neg h61 ?_
    refine Ev.pos (by omega) ?_
    exact H
theorem it_go (t : Int) (hi : i < b.length) (hc : rd b (i : Int) = c) (he : ¬ ((c = 61 ∧ i % 4 < 2) ∨ (c ≠ 61 ∧ 0 ≤ pad) ∨ (c = 61 ∧ 0 ≤ pad ∧ i % 4 = 2)))
    (h : Ev (fun k => posthornref01_Decode.l1 k s b at_ d (if c = 61 ∧ pad < 0 then (i : Int) else pad) (i : Int) t 32) r) :
    Ev (fun k => posthornref01_Decode.j1 k s b at_ d pad (i : Int) t false) r := by
  have H : Ev (fun k => posthornref01_Decode.j2 k s b at_ d pad (i : Int) t false) r := by
    refine Ev.step (by intro k; rw [posthornref01_Decode.j2]) ?_
    refine Ev.neg (by decide) ?_
    refine Ev.pos (by omega) ?_; refine Ev.pos (by omega) ?_
    rw [hc]
    by_cases h61 : c = 61
    · refine Ev.pos h61 ?_
      by_cases hp : pad < 0
      · rw [decide_eq_true hp]
        refine Ev.step (by intro k; rw [posthornref01_Decode.j3]) ?_
        refine Ev.pos rfl ?_
        refine Ev.step (by intro k; rw [posthornref01_Decode.j4]) ?_
        rw [if_pos ⟨h61, hp⟩] at h
        exact h
      · rw [decide_eq_false hp]
        refine Ev.step (by intro k; rw [posthornref01_Decode.j3]) ?_
        refine Ev.neg (by decide) ?_
        refine Ev.step (by intro k; rw [posthornref01_Decode.j4]) ?_
        rw [if_neg (fun h => hp h.2)] at h
        exact h
    · refine Ev.neg h61 ?_
      refine Ev.step (by intro k; rw [posthornref01_Decode.j3]) ?_
      refine Ev.neg (by decide) ?_
      refine Ev.step (by intro k; rw [posthornref01_Decode.j4]) ?_
      rw [if_neg (fun h => h61 h.1)] at h
      exact h
  refine Ev.step (by intro k; rw [posthornref01_Decode.j1]) ?_
  refine Ev.neg (by decide) ?_
  refine Ev.pos (by omega) ?_; refine Ev.pos (by omega) ?_
  rw [hc, tmod_pos (i : Int) 4 (by omega)]
  by_cases h61 : c = 61
  · refine Ev.pos h61 ?_
    refine Ev.neg (by omega) ?_
    by_cases hp : pad ≥ 0
    · refine Ev.pos hp ?_
      rw [show ((i : Int) % 4 == 2) = false from beq_eq_false_iff_ne.mpr (by omega)]
      exact H
    · refine Ev.neg hp ?_; exact H
  · refine Ev.neg h61 ?_
    refine Ev.neg (by omega) ?_
    exact H
theorem l1_six (t : Int) (ht0 : 0 ≤ t) (ht1 : t ≤ 63) (hp : pad < 0) (hd : d.length ≤ 100000000)
    (h : Ev (fun k => posthornref01_Decode.l1 k s b at_ (d ++ six t) pad (i : Int) t 0) r) : Ev (fun k => posthornref01_Decode.l1 k s b at_ d pad (i : Int) t 32) r := by
  have H : ∀ (n : Int) (a : List Int), 0 < n → n ≤ 32 → a.length ≤ 100000010 → Ev (fun k => posthornref01_Decode.l1 k s b at_ (a ++ [t / n % 2]) pad (i : Int) t (n / 2)) r → Ev (fun k => posthornref01_Decode.l1 k s b at_ a pad (i : Int) t n) r := by
    intro n a hn hn2 ha h
    have hq : 0 ≤ t / n ∧ t / n ≤ t := ⟨Int.ediv_nonneg ht0 (by omega), Int.ediv_le_self _ ht0⟩
    refine Ev.step (by intro k; rw [posthornref01_Decode.l1]) ?_
    refine Ev.pos (by omega) ?_; refine Ev.pos (by omega) ?_; refine Ev.neg (by omega) ?_; refine Ev.pos (by omega) ?_
    rw [tdiv_pos t n ht0, wrap64_id (t / n) (by omega) (by omega), tmod_pos _ 2 hq.1, tdiv_pos n 2 (by omega), wrap64_id (n / 2) (by omega) (by omega)]
    exact h
  refine H 32 _ (by decide) (by decide) (by omega) ?_
  refine H 16 _ (by decide) (by decide) (by simp; omega) ?_
  refine H 8 _ (by decide) (by decide) (by simp; omega) ?_
  refine H 4 _ (by decide) (by decide) (by simp; omega) ?_
  refine H 2 _ (by decide) (by decide) (by simp; omega) ?_
  refine H 1 _ (by decide) (by decide) (by simp; omega) ?_
  simpa [six] using h
theorem l1_end (t x : Int) (hx : x ≤ 0 ∨ 0 ≤ pad) (hi : i ≤ 100000000) (h : ¬ (i % 4 = 3 ∧ 0 ≤ pad) → Ev (fun k => posthornref01_Decode.l0 k s b at_ d pad ((i + 1 : Nat) : Int)) r)
    (h2 : i % 4 = 3 ∧ 0 ≤ pad → 1 ≤ pad ∧ pad ≤ at_.length ∧ ∃ tl : Bool, Ev (fun k => posthornref01_tail.f k d) tl ∧ (tl = true → r = ([], rd at_ (pad - 1), 12)) ∧ (tl = false → Ev (fun k => posthornref01_Decode.l0 k s b at_ d pad ((i + 1 : Nat) : Int)) r)) (hat : at_.length ≤ 100000000) :
    Ev (fun k => posthornref01_Decode.l1 k s b at_ d pad (i : Int) t x) r := by
  have H : Ev (fun k => if Int.tmod (i : Int) 4 = 3 then (if pad ≥ 0 then ((posthornref01_tail.f k d).bind fun t148 => (if t148 = true then (if 0 ≤ (wrap64 (pad - 1)) then (if (wrap64 (pad - 1)) < (at_.length : Int) then (some (([] : List Int), rd at_ (wrap64 (pad - 1)), 12)) else (none)) else (none)) else (posthornref01_Decode.l0 k s b at_ d pad (wrap64 ((i : Int) + 1))))) else (posthornref01_Decode.l0 k s b at_ d pad (wrap64 ((i : Int) + 1)))) else (posthornref01_Decode.l0 k s b at_ d pad (wrap64 ((i : Int) + 1)))) r := by
    rw [tmod_pos (i : Int) 4 (by omega), wrap64_id ((i : Int) + 1) (by omega) (by omega)]
    by_cases h3 : (i : Int) % 4 = 3
    · refine Ev.pos h3 ?_
      by_cases hp : pad ≥ 0
      · refine Ev.pos hp ?_
        obtain ⟨hp1, hp2, tl, ht, ht1, ht2⟩ := h2 ⟨by omega, hp⟩
        refine Ev.bind ht ?_
        rcases tl with _ | _
        · refine Ev.neg (by decide) ?_; exact ht2 rfl
        · refine Ev.pos rfl ?_
          rw [wrap64_id (pad - 1) (by omega) (by omega)]
          refine Ev.pos (by omega) ?_; refine Ev.pos (by omega) ?_
          rw [ht1 rfl]
          exact Ev.done _
      · refine Ev.neg hp ?_; exact h (fun h => hp h.2)
    · refine Ev.neg h3 ?_; exact h (by omega)
  refine Ev.step (by intro k; rw [posthornref01_Decode.l1]) ?_
  by_cases hx0 : x > 0
  · refine Ev.pos hx0 ?_
    refine Ev.neg (by omega) ?_
    exact H
  · refine Ev.neg hx0 ?_
    exact H
theorem it_end (hi : b.length = i) (hs : s.size ≤ 2097152) (hb : b.length ≤ s.size) : i % 4 ≠ 0 → Ev (fun k => posthornref01_Decode.l0 k s b at_ d pad (i : Int)) ([], (s.size : Int), 11) := by
  intro h
  refine Ev.step (by intro k; rw [posthornref01_Decode.l0]) ?_
  refine Ev.neg (by omega) ?_
  refine Ev.pos (by omega) ?_
  exact Ev.done _
theorem it_fin (o rest : List Int) (hi : b.length = i) (h4 : i % 4 = 0) (hd : d = digs o ++ rest) (hb : Bytes o) (hr : rest.length < 8) (ho : o.length ≤ 10000000) : Ev (fun k => posthornref01_Decode.l0 k s b at_ d pad (i : Int)) (o, 0, 0) := by
  refine Ev.step (by intro k; rw [posthornref01_Decode.l0]) ?_
  refine Ev.neg (by omega) ?_
  refine Ev.neg (by omega) ?_
  rw [hd]
  have h := oct_loop o.length o rest [] (Nat.le_refl _) hb hr (by simp; omega)
  simpa using h
end
end Go.Proofs.Ytijccfblenmfcaa
