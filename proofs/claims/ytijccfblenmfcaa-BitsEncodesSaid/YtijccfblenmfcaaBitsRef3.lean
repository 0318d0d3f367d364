/- The document's Decode: what its printed function comes to. -/
import Derived.Test.YtijccfblenmfcaaBitsRef
namespace Go.Proofs.Ytijccfblenmfcaa
open Go.RowKit Go.Proofs.YtijccfblenmfcaaW.PrintWords

theorem bt_rd (s : ByteArray) (i : Int) : bt s i = rd (bytesOf s) i := (rd_bytesOf s i).symm
open PBitsDecodes in
theorem bare_loop (s : ByteArray) (hs : s.size ≤ 2097152) (f : Nat) : ∀ (i : Nat) (o a : List Int), i ≤ s.size → s.size - i ≤ f → o.length ≤ i → a.length ≤ i →
    Ev (fun k => posthornref01_Bare.l0 k s o a (i : Int)) (o ++ (toks ((bytesOf s).drop i) i).map Prod.fst, a ++ (toks ((bytesOf s).drop i) i).map Prod.snd) := by
  have HL : (bytesOf s).length = s.size := bytesOf_length s
  induction f with
  | zero =>
    intro i o a hi hf ho ha
    rw [toks_end _ _ _ (by omega)]
    refine Ev.step (by intro k; rw [posthornref01_Bare.l0]) ?_
    refine Ev.neg (by omega) ?_
    simpa using Ev.done (o, a)
  | succ f ih =>
    intro i o a hi hf ho ha
    by_cases hlt : i < s.size
    · refine Ev.step (by intro k; rw [posthornref01_Bare.l0]) ?_
      refine Ev.pos (by omega) ?_
      refine Ev.pos (by omega) ?_
      rw [wrap64_id ((i : Int) + 1) (by omega) (by omega), bt_rd, bt_rd]
      have hskip : ∀ h : crlf (bytesOf s) i = true, Ev (fun k => posthornref01_Bare.l0 k s o a (wrap64 ((i : Int) + 1 + 1))) (o ++ (toks ((bytesOf s).drop i) i).map Prod.fst, a ++ (toks ((bytesOf s).drop i) i).map Prod.snd) := by
        intro h
        have h2 : i + 2 ≤ s.size := by
          simp only [crlf, decide_eq_true_eq] at h; omega
        rw [toks_skip _ _ _ h, wrap64_id _ (by omega) (by omega)]
        have h3 := ih (i + 2) o a h2 (by omega) (by omega) (by omega)
        simpa [Int.add_assoc] using h3
      have htake : ∀ h : crlf (bytesOf s) i = false, Ev (fun k => if o.length < 140737488355328 then if a.length < 17592186044416 then posthornref01_Bare.l0 k s (o ++ [rd (bytesOf s) i]) (a ++ [(i : Int)]) ((i : Int) + 1) else none else none) (o ++ (toks ((bytesOf s).drop i) i).map Prod.fst, a ++ (toks ((bytesOf s).drop i) i).map Prod.snd) := by
        intro h
        refine Ev.pos (by omega) ?_
        refine Ev.pos (by omega) ?_
        rw [toks_take _ _ _ (by omega) h]
        have h3 := ih (i + 1) (o ++ [rd (bytesOf s) i]) (a ++ [(i : Int)]) (by omega) (by omega) (by simp; omega) (by simp; omega)
        simpa [List.append_assoc] using h3
      by_cases h1 : rd (bytesOf s) (i : Int) = 13
      · refine Ev.pos h1 ?_
        by_cases h2 : i + 1 < s.size
        · refine Ev.pos (by omega) ?_
          refine Ev.pos (by omega) ?_
          by_cases h3 : rd (bytesOf s) ((i : Int) + 1) = 10
          · refine Ev.pos h3 ?_
            exact hskip (by simp only [crlf, decide_eq_true_eq]; exact ⟨h1, by omega, by push_cast; exact h3⟩)
          · refine Ev.neg h3 ?_
            exact htake (by simp only [crlf, decide_eq_false_iff_not]; intro h; exact h3 (by have := h.2.2; push_cast at this; exact this))
        · refine Ev.neg (by omega) ?_
          exact htake (by simp only [crlf, decide_eq_false_iff_not]; intro h; omega)
      · refine Ev.neg h1 ?_
        exact htake (by simp only [crlf, decide_eq_false_iff_not]; intro h; exact h1 h.1)
    · rw [toks_end _ _ _ (by omega)]
      refine Ev.step (by intro k; rw [posthornref01_Bare.l0]) ?_
      refine Ev.neg (by omega) ?_
      simpa using Ev.done (o, a)
open PBitsDecodes in
theorem bare_ev (s : ByteArray) (hs : s.size ≤ 2097152) : Ev (fun k => posthornref01_Bare.f k s) ((toks (bytesOf s) 0).map Prod.fst, (toks (bytesOf s) 0).map Prod.snd) := by
  have h := bare_loop s hs s.size 0 [] [] (by omega) (by omega) (by simp) (by simp)
  unfold posthornref01_Bare.f
  simpa using h

def anyPos (l : List Int) : Bool := l.any fun x => decide (x > 0)
open PBitsDecodes in
theorem tail_loop (d : List Int) (hd : d.length ≤ 100000000) (f : Nat) : ∀ i : Nat, d.length - i ≤ f → Ev (fun k => posthornref01_tail.l0 k d (i : Int)) (anyPos (d.drop i)) := by
  induction f with
  | zero =>
    intro i hf
    rw [List.drop_eq_nil_of_le (by omega)]
    refine Ev.step (by intro k; rw [posthornref01_tail.l0]) ?_
    refine Ev.neg (by omega) ?_
    exact Ev.done _
  | succ f ih =>
    intro i hf
    by_cases hlt : i < d.length
    · rw [List.drop_eq_getElem_cons hlt, ← rd_lt d i hlt]
      refine Ev.step (by intro k; rw [posthornref01_tail.l0]) ?_
      refine Ev.pos (by omega) ?_
      refine Ev.pos (by omega) ?_
      by_cases hp : rd d (i : Int) > 0
      · refine Ev.pos hp ?_
        rw [show anyPos (rd d (i : Int) :: d.drop (i + 1)) = true by simp [anyPos]; exact .inl hp]
        exact Ev.done _
      · refine Ev.neg hp ?_
        rw [show anyPos (rd d (i : Int) :: d.drop (i + 1)) = anyPos (d.drop (i + 1)) by simp [anyPos]; omega]
        rw [wrap64_id _ (by omega) (by omega)]
        exact ih (i + 1) (by omega)
    · rw [List.drop_eq_nil_of_le (by omega)]
      refine Ev.step (by intro k; rw [posthornref01_tail.l0]) ?_
      refine Ev.neg (by omega) ?_
      exact Ev.done _
open PBitsDecodes in
theorem tail_ev (o rest : List Int) (ho : o.length ≤ 10000000) (hr : rest.length < 8) : Ev (fun k => posthornref01_tail.f k (digs o ++ rest)) (anyPos rest) := by
  have hl : (digs o ++ rest).length = 8 * o.length + rest.length := by rw [List.length_append, digs_len]
  have h := tail_loop (digs o ++ rest) (by omega) (digs o ++ rest).length (8 * o.length) (by omega)
  rw [List.drop_append, digs_len, List.drop_eq_nil_of_le (by rw [digs_len]; omega), Nat.sub_self, List.drop_zero, List.nil_append] at h
  unfold posthornref01_tail.f
  rw [hl, wrap64_id (((8 * o.length + rest.length : Nat) : Int) / 8) (by omega) (by omega), wrap64_id _ (by omega) (by omega), show ((8 * o.length + rest.length : Nat) : Int) / 8 * 8 = ((8 * o.length : Nat) : Int) by omega]
  exact h

def oct8 (x : Int) : Int := 2 * (2 * (2 * (2 * (2 * (2 * (2 * (2 * 0 + x / 128 % 2) + x / 64 % 2) + x / 32 % 2) + x / 16 % 2) + x / 8 % 2) + x / 4 % 2) + x / 2 % 2) + x % 2
theorem oct8_all : ∀ x : Fin 256, oct8 (x.val : Int) % 256 = x.val := by decide +kernel
theorem oct8_id (x : Int) (h0 : 0 ≤ x) (h1 : x ≤ 255) : oct8 x % 256 = x := by
  have h := oct8_all ⟨x.toNat, by omega⟩
  rwa [show ((x.toNat : Nat) : Int) = x by omega] at h
open PBitsDecodes in
set_option maxHeartbeats 2000000 in
theorem oct_loop (f : Nat) : ∀ (o rest acc : List Int), o.length ≤ f → Bytes o → rest.length < 8 → acc.length + o.length ≤ 10000000 → Ev (fun k => posthornref01_Decode.l2 k (digs o ++ rest) acc) (acc ++ o, 0, 0) := by
  induction f with
  | zero =>
    intro o rest acc hf hb hr ha
    obtain rfl : o = [] := List.eq_nil_of_length_eq_zero (by omega)
    refine Ev.step (by intro k; rw [posthornref01_Decode.l2]) ?_
    rw [show digs [] ++ rest = rest from rfl, List.append_nil]
    refine Ev.neg (by omega) ?_
    exact Ev.done _
  | succ f ih =>
    intro o rest acc hf hb hr ha
    rcases o with _ | ⟨x, t⟩
    · refine Ev.step (by intro k; rw [posthornref01_Decode.l2]) ?_
      rw [show digs [] ++ rest = rest from rfl, List.append_nil]
      refine Ev.neg (by omega) ?_
      exact Ev.done _
    · have hx := hb x (by simp)
      have hl : (digs (x :: t) ++ rest).length = 8 * t.length + 8 + rest.length := by rw [List.length_append, digs_len]; simp only [List.length_cons]; omega
      have hd : (digs (x :: t) ++ rest).drop 8 = digs t ++ rest := rfl
      simp only [List.length_cons] at hf ha
      have h := ih t rest (acc ++ [x]) (by omega) (fun y hy => hb y (by simp [hy])) hr (by simp; omega)
      have r0 : rd (digs (x :: t) ++ rest) 0 = x / 128 % 2 := rfl
      have r1 : rd (digs (x :: t) ++ rest) 1 = x / 64 % 2 := rfl
      have r2 : rd (digs (x :: t) ++ rest) 2 = x / 32 % 2 := rfl
      have r3 : rd (digs (x :: t) ++ rest) 3 = x / 16 % 2 := rfl
      have r4 : rd (digs (x :: t) ++ rest) 4 = x / 8 % 2 := rfl
      have r5 : rd (digs (x :: t) ++ rest) 5 = x / 4 % 2 := rfl
      have r6 : rd (digs (x :: t) ++ rest) 6 = x / 2 % 2 := rfl
      have r7 : rd (digs (x :: t) ++ rest) 7 = x % 2 := rfl
      generalize digs (x :: t) ++ rest = d at *
      refine Ev.step (by intro k; rw [posthornref01_Decode.l2]) ?_
      refine Ev.pos (by omega) ?_
      have H : ∀ (v : Int) (j : Int) (z : Int) (r : List Int × Int × Int), 0 ≤ v → v ≤ 1000 → 0 ≤ j → j < 8 → rd d j = z → 0 ≤ z → z ≤ 1 → Ev (fun k => posthornref01_Decode.l3 k d acc (2 * v + z) (j + 1)) r → Ev (fun k => posthornref01_Decode.l3 k d acc v j) r := by
        intro v j z r h0 h1 h2 h3 h4 h5 h6 h7
        refine Ev.step (by intro k; rw [posthornref01_Decode.l3]) ?_
        refine Ev.pos (by omega) ?_
        refine Ev.pos (by omega) ?_
        refine Ev.pos (by omega) ?_
        rw [h4, wrap64_id (2 * v) (by omega) (by omega), wrap64_id _ (by omega) (by omega), wrap64_id (j + 1) (by omega) (by omega)]
        exact h7
      refine H _ _ _ _ (by omega) (by omega) (by omega) (by omega) r0 (by omega) (by omega) ?_
      refine H _ _ _ _ (by omega) (by omega) (by omega) (by omega) r1 (by omega) (by omega) ?_
      refine H _ _ _ _ (by omega) (by omega) (by omega) (by omega) r2 (by omega) (by omega) ?_
      refine H _ _ _ _ (by omega) (by omega) (by omega) (by omega) r3 (by omega) (by omega) ?_
      refine H _ _ _ _ (by omega) (by omega) (by omega) (by omega) r4 (by omega) (by omega) ?_
      refine H _ _ _ _ (by omega) (by omega) (by omega) (by omega) r5 (by omega) (by omega) ?_
      refine H _ _ _ _ (by omega) (by omega) (by omega) (by omega) r6 (by omega) (by omega) ?_
      refine H _ _ _ _ (by omega) (by omega) (by omega) (by omega) r7 (by omega) (by omega) ?_
      refine Ev.step (by intro k; rw [posthornref01_Decode.l3]) ?_
      refine Ev.neg (by omega) ?_
      refine Ev.pos (by omega) ?_
      refine Ev.pos (by omega) ?_
      have e8 : (2 * (2 * (2 * (2 * (2 * (2 * (2 * (2 * 0 + x / 128 % 2) + x / 64 % 2) + x / 32 % 2) + x / 16 % 2) + x / 8 % 2) + x / 4 % 2) + x / 2 % 2) + x % 2) % 256 = x := oct8_id x hx.1 hx.2
      rw [e8]
      rw [show (8 : Int).toNat = 8 from rfl, hd]
      simpa [List.append_assoc] using h
end Go.Proofs.Ytijccfblenmfcaa
