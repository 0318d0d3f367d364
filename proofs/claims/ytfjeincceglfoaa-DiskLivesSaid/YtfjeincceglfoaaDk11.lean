/- The disk: what the statements' played does. -/
import Derived.Test.YtfjeincceglfoaaDk10
namespace Go.Proofs.Ytfjeincceglfoaa
open Go.RowKit Go.Proofs.YtfjeincceglfoaaW.PrintWords

/-- The ops lie at A. -/
def OpsAt (w : World) (A : Option Addr) (ops : List OpV) : Prop :=
  ops = [] ∨ ∃ b o, A = some ⟨b, o, none⟩ ∧ b < w.heap.size ∧ ∀ j (h : j < ops.length), w.rangeAt b (o + j * 7) ops[j].cells.toList
theorem OpsAt.below {w w' : World} {A : Option Addr} {ops : List OpV} (h : OpsAt w A ops) (hB : Below w.heap.size w w') : OpsAt w' A ops := by
  rcases h with rfl | ⟨b, o, rfl, hb, h⟩
  · exact .inl rfl
  · exact .inr ⟨b, o, rfl, Nat.lt_of_lt_of_le hb hB.size, fun j hj i v hv => by rw [hB.cell hb]; exact h j hj i v hv⟩
theorem planV_np {D : DS} (h : D.planned = false) : planV D = (0, D) := by unfold planV; rw [if_pos h]
theorem callV_np (D : DS) (o : OpV) (h : D.planned = false) (hk : o.kind ≠ 3) : (callV D o).2.planned = false ∧ (callV D o).2.after = D.after ∧ (callV D o).2.pend.length ≤ D.pend.length + 1 ∧ (callV D o).2.size = D.size := by
  unfold callV
  by_cases h0 : o.kind = 0
  · rw [if_pos h0]; unfold writeV
    rw [planV_np h]
    split
    · exact ⟨h, rfl, by simp, rfl⟩
    · split
      · exact ⟨h, rfl, by simp, rfl⟩
      · simp [h]
  rw [if_neg h0]
  by_cases h1 : o.kind = 1
  · rw [if_pos h1]; unfold syncV
    rw [planV_np h]
    simp [h]
  rw [if_neg h1]
  by_cases h2 : o.kind = 2
  · rw [if_pos h2]
    simp [crashV]
  rw [if_neg h2, if_neg hk]
  by_cases h4 : o.kind = 4
  · rw [if_pos h4]; unfold turnV
    split
    · exact ⟨h, rfl, by simp, rfl⟩
    · split
      · exact ⟨h, rfl, by simp, rfl⟩
      · simp [h]
  rw [if_neg h4]
  exact ⟨h, rfl, by simp, rfl⟩
def playS (D : DS) (o : OpV) : DS := if o.kind = 3 then D else (callV D o).2
def playV (n : Int) (ops : List OpV) : DS := (ops.take 60).foldl playS (newD n)
theorem playS_np (D : DS) (o : OpV) (h : D.planned = false) : (playS D o).planned = false ∧ (playS D o).after = D.after ∧ (playS D o).pend.length ≤ D.pend.length + 1 ∧ (playS D o).size = D.size := by
  unfold playS
  split
  · exact ⟨h, rfl, by simp, rfl⟩
  · exact callV_np D o h (by assumption)
theorem play_np (l : List OpV) (D : DS) (h : D.planned = false) : (l.foldl playS D).planned = false ∧ (l.foldl playS D).after = D.after ∧ (l.foldl playS D).pend.length ≤ D.pend.length + l.length ∧ (l.foldl playS D).size = D.size := by
  induction l generalizing D with
  | nil => exact ⟨h, rfl, by simp, rfl⟩
  | cons o l ih =>
    obtain ⟨a1, a2, a3, a4⟩ := playS_np D o h
    obtain ⟨b1, b2, b3, b4⟩ := ih (playS D o) a1
    simp only [List.foldl_cons, List.length_cons]
    exact ⟨b1, b2.trans a2, by omega, b4.trans a4⟩
theorem play_take (ops : List OpV) (D : DS) (j : Nat) (hj : j < ops.length) : (ops.take (j + 1)).foldl playS D = playS ((ops.take j).foldl playS D) ops[j] := by
  rw [List.take_succ_eq_append_getElem hj, List.foldl_append]
  rfl
/-- A disk that lies in what is new since w0. -/
def LD (w0 w : World) (b : Nat) (D : DS) : Prop := ∃ fs, DiskAt w b D fs ∧ (∀ i, fs i → w0.heap.size ≤ i) ∧ Below w0.heap.size w0 w
theorem LD.eff {w0 w w' : World} {b : Nat} {D' : DS} {fs : Nat → Prop} (hf : ∀ i, fs i → w0.heap.size ≤ i) (hB : Below w0.heap.size w0 w) (h : Eff w b fs D' w') : LD w0 w' b D' := by
  obtain ⟨fs', h1, h2, h3⟩ := h
  refine ⟨fs', h1, fun i hi => (h3 i hi).elim (hf i) (fun h9 => Nat.le_trans hB.size h9), hB.trans (h2.below hf hB.size)⟩
set_option maxRecDepth 100000 in
set_option maxHeartbeats 1000000 in
theorem played_no (n : Int) (v : Value) (w : World) (h : n < 1 ∨ (1 ≤ n ∧ 65536 < n)) : Calls Try.prog 9 #[.int .i64 n, v] w fun e w' => e = .returned (.pointer none) ∧ w = w' := by
  have HN := Lib.hid (new_no n w h)
  clear h
  go_enter Try.func9, Try.ntmps9
  go_wp2_with (first | (go_at_call 17; ((with_reducible refine HN.out.mono ?_); rintro e w1 ⟨rfl, rfl⟩)))
  go_ret
  exact ⟨rfl, rfl⟩
set_option maxRecDepth 100000 in
set_option maxHeartbeats 2000000 in
theorem played_yes (n : Int) (A : Option Addr) (c : Nat) (ops : List OpV) (w : World) (h : 1 ≤ n) (h2 : n ≤ 65536) (hO : OpsAt w A ops) (hok : ∀ o ∈ ops, o.Ok) (hlen : ops.length ≤ 9223372036854775807) :
    Calls Try.prog 9 #[.int .i64 n, .slice A ops.length c] w fun e w' => ∃ b, e = .returned (.pointer (some ⟨b, 0, none⟩)) ∧ LD w w' b (playV n ops) := by
  have HN := Lib.hid (new_yes n w h h2)
  have HO := Lib.hid hO
  have HOK := Lib.hid hok
  clear h h2 hO hok
  go_enter Try.func9, Try.ntmps9
  go_wp2_with (first | (go_at_call 17; ((with_reducible refine HN.out.mono ?_); rintro e w1 ⟨b, rfl, hD, hB⟩; have HL : Hid (LD w w1 b (newD n)) := Lib.hid ⟨_, hD, fun i hi => hi.1, hB⟩; clear hD hB)))
  go_loopw [7] (fun s7 wr => ∃ j : Nat, j ≤ ops.length ∧ j ≤ 60 ∧ s7 = .int .i64 j ∧ Hid (LD w wr b ((ops.take j).foldl playS (newD n)))) (fun s7 _ => 60 - (intOf s7).toNat)
  case atStart => exact ⟨0, Nat.zero_le _, Nat.zero_le _, rfl, HL⟩
  case round =>
    obtain ⟨j, hj, hj60, rfl, HD⟩ := hrel
    by_cases hlt : j < ops.length ∧ j < 60
    · obtain ⟨hlt1, hlt2⟩ := hlt
      obtain ⟨fs, hD, hF, hB⟩ := HD.out
      obtain ⟨ob, oo, rfl, hob, hr⟩ : ∃ b o, A = some ⟨b, o, none⟩ ∧ b < wr.heap.size ∧ ∀ j (h : j < ops.length), wr.rangeAt b (o + j * 7) ops[j].cells.toList := by
        rcases HO.out.below hB with h9 | h9
        · subst h9; exact absurd hlt1 (Nat.not_lt_zero _)
        · exact h9
      have hr1 := hr j hlt1
      have hok1 := HOK.out ops[j] (List.getElem_mem hlt1)
      have HPS : Hid ((ops.take (j + 1)).foldl playS (newD n) = playS ((ops.take j).foldl playS (newD n)) ops[j]) := Lib.hid (play_take ops _ j hlt1)
      obtain ⟨_, q2, q3, _⟩ := play_np (ops.take j) (newD n) rfl
      have q4 : ((ops.take j).foldl playS (newD n)).pend.length ≤ 1000000000 := by
        have : (newD n).pend.length = 0 := rfl
        rw [List.length_take] at q3
        omega
      have q5 : ((ops.take j).foldl playS (newD n)).after ≤ 9223372036854775807 := by rw [q2]; show (0 : Int) ≤ _; omega
      have HCALL := Lib.hid (call_any b _ fs ops[j] wr hD hok1 q5 q4)
      have HRG := Lib.hid hr1
      have ck : wr.cell? ⟨ob, oo + j * 7, none⟩ = some (.int .i64 ops[j].kind) := hr1 0 _ rfl
      generalize ops[j] = o at *
      have hj0 : (0 : Int) ≤ (j : Int) := Int.natCast_nonneg _
      have hj1 : (j : Int) < (ops.length : Int) := by omega
      have hj2 : (j : Int) < 60 := by omega
      clear hr hr1 hok1 q2 q3 q4 q5 hob hD
      have HF := Lib.hid hF
      have HB := Lib.hid hB
      clear hF hB
      by_cases hk : o.kind = 3
      · have b1 : (o.kind != 3) = false := by rw [hk]; rfl
        go_wp2
        go_round
        case measure => simp [intOf]; omega
        case rel => exact ⟨j + 1, by omega, by omega, by simp, by rw [HPS.out, playS, if_pos hk]; exact HD⟩
      · have b1 : (o.kind != 3) = true := bne_iff_ne.mpr hk
        go_wp2_with (first
          | ((with_reducible refine at_load_mid (x := .tmp 34) (d := some 35) ob (oo + j * 7) o.cells.toList _ HRG.out Try.underlying36 (by kernel_rfl) rfl ?_ ?_); rfl)
          | (go_at_call 15; ((with_reducible refine HCALL.out.mono ?_); rintro e2 w2 ⟨rfl, hE⟩; have HE := Lib.hid hE; clear hE)))
        go_round
        case measure => simp [intOf]; omega
        case rel => exact ⟨j + 1, by omega, by omega, by simp, by rw [HPS.out, playS, if_neg hk]; exact Lib.hid (LD.eff HF.out HB.out HE.out)⟩
    · have hEND : (ops.take j).foldl playS (newD n) = playV n ops := by
        unfold playV
        by_cases h9 : j = 60
        · subst h9; rfl
        · have : j = ops.length := by omega
          subst this
          rw [List.take_of_length_le (Nat.le_refl _), List.take_of_length_le (by omega)]
      rw [hEND] at HD
      by_cases h9 : j < ops.length
      · have hj1 : (j : Int) < (ops.length : Int) := by omega
        have hj2 : ¬ (j : Int) < 60 := by omega
        go_wp2
        go_ret
        exact ⟨b, rfl, HD.out⟩
      · have hj1 : ¬ (j : Int) < (ops.length : Int) := by omega
        go_wp2
        go_ret
        exact ⟨b, rfl, HD.out⟩
end Go.Proofs.Ytfjeincceglfoaa
