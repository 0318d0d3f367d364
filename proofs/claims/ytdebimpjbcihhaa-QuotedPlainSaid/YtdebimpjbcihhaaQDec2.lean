/- quoted.Decode is decQ. -/
import Derived.Test.YtdebimpjbcihhaaQDec
namespace Go.Proofs.Ytdebimpjbcihhaa
open Go.RowKit Go.Proofs.YtdebimpjbcihhaaW.PrintWords

theorem or_all : ∀ a b : Fin 16, Go.bits .or .u8 (((a.val : Int) * 16) % 256) (b.val : Int) = 16 * a.val + b.val := by decide +kernel
theorem or_dig (a b : Int) (h0 : 0 ≤ a) (h1 : a ≤ 15) (h2 : 0 ≤ b) (h3 : b ≤ 15) : Go.bits .or .u8 ((a * 16) % 256) b = 16 * a + b := by
  have h := or_all ⟨a.toNat, by omega⟩ ⟨b.toNat, by omega⟩
  rwa [show ((a.toNat : Nat) : Int) = a by omega, show ((b.toNat : Nat) : Int) = b by omega] at h
theorem hv_range (c : Int) : hv c = -1 ∨ (0 ≤ hv c ∧ hv c ≤ 15) := by
  unfold hv
  repeat' split
  all_goals omega
theorem ext_bytes (s : ByteArray) (a b : Nat) : bytesOf (s.extract a b) = ((bytesOf s).drop a).take (b - a) := by
  have h := ext_data s a b
  rw [Go.ByteArray.toList_eq] at h
  simp only [bytesOf, h, List.map_take, List.map_drop]
theorem skp_all (xs : List Int) (f : Nat) : ∀ i j, i ≤ j → j < skp xs f i → j < xs.length ∧ isBl (rd xs (j : Int)) = true := by
  induction f with
  | zero => intro i j h1 h2; simp only [skp] at h2; omega
  | succ f ih =>
    intro i j h1 h2
    rw [skp] at h2
    split at h2
    · rename_i h
      by_cases he : i = j
      · subst he; exact h
      · exact ih (i + 1) j (by omega) h2
    · omega
theorem trl_skp (xs : List Int) (i : Nat) : trl xs i = (decide (skp xs (xs.length - i) i = xs.length) || prs xs (skp xs (xs.length - i) i)) := rfl
open PQuotedEncodes in
set_option maxHeartbeats 1000000 in
theorem qdec_loop (s : ByteArray) (hs : s.size ≤ 4194304) (f : Nat) : ∀ (i : Nat) (out : List Int), i ≤ s.size → s.size - i ≤ f → out.length ≤ 2 * i → Ev (fun k => quoted_Decode.l0 k s out (i : Int)) (decQ (bytesOf s) f i out) := by
  have HL : (bytesOf s).length = s.size := bytesOf_length s
  induction f using Nat.strongRecOn with
  | ind f ih =>
    intro i out hi hf ho
    by_cases hlt : i < s.size
    · obtain ⟨f, rfl⟩ : ∃ g, f = g + 1 := ⟨f - 1, by omega⟩
      have hx := (bytesOf_bytes s).rd i
      refine Ev.step (by intro k; rw [quoted_Decode.l0]) ?_
      refine Ev.pos (by omega) ?_
      refine Ev.pos (by omega) ?_
      rw [pair_eq s i (by omega) (by omega)]
      simp only [Option.bind_some]
      rw [decQ, if_neg (by omega)]
      by_cases hp : prs (bytesOf s) (i : Int) = true
      · have h2 : i + 2 ≤ s.size := by
          simp only [prs, decide_eq_true_eq] at hp; omega
        refine Ev.pos hp ?_
        refine Ev.pos (by simp; omega) ?_
        rw [if_pos hp, wrap64_id _ (by omega) (by omega)]
        exact ih f (by omega) (i + 2) (out ++ [13, 10]) h2 (by omega) (by simp; omega)
      · rw [if_neg hp]
        refine Ev.neg hp ?_
        rw [← rd_bytesOf]
        by_cases h61 : rd (bytesOf s) (i : Int) = 61
        · refine Ev.pos h61 ?_
          rw [if_pos h61, wrap64_id ((i : Int) + 1) (by omega) (by omega), pair_eq s ((i : Int) + 1) (by omega) (by omega)]
          simp only [Option.bind_some]
          rw [show ((i : Int) + 1) = ((i + 1 : Nat) : Int) by omega]
          by_cases hp1 : prs (bytesOf s) ((i + 1 : Nat) : Int) = true
          · have h3 : i + 3 ≤ s.size := by
              simp only [prs, decide_eq_true_eq] at hp1; omega
            rw [if_pos hp1, hp1]
            refine Ev.step (by intro k; rw [quoted_Decode.j1]) ?_
            refine Ev.pos rfl ?_
            rw [wrap64_id _ (by omega) (by omega)]
            exact ih f (by omega) (i + 3) out h3 (by omega) (by omega)
          · rw [if_neg hp1, show prs (bytesOf s) ((i + 1 : Nat) : Int) = false by simpa using hp1]
            refine Ev.step (by intro k; rw [quoted_Decode.j1]) ?_
            refine Ev.neg (by decide) ?_
            refine Ev.pos h61 ?_
            rw [wrap64_id ((i : Int) + 2) (by omega) (by omega), wrap64_id ((i : Int) + 1) (by omega) (by omega)]
            have hbad : Ev (fun k => quoted_Decode.j2 k s out (i : Int) true) ([], (i : Int), 3) := by
              refine Ev.step (by intro k; rw [quoted_Decode.j2]) ?_
              refine Ev.pos rfl ?_
              exact Ev.done _
            by_cases h2 : i + 2 < s.size
            · refine Ev.neg (by omega) ?_
              refine Ev.pos (by omega) ?_
              refine Ev.pos (by omega) ?_
              have hb1 := (bytesOf_bytes s).rd (i + 1)
              have hb2 := (bytesOf_bytes s).rd (i + 2)
              rw [show ((i : Int) + 1) = ((i + 1 : Nat) : Int) by omega, show ((i : Int) + 2) = ((i + 2 : Nat) : Int) by omega]
              rw [← rd_bytesOf, ← rd_bytesOf]
              have d1 := digit_ev _ hb1.1 hb1.2
              have d2 := digit_ev _ hb2.1 hb2.2
              have r1 := hv_range (rd (bytesOf s) ((i + 1 : Nat) : Int))
              have r2 := hv_range (rd (bytesOf s) ((i + 2 : Nat) : Int))
              refine Ev.bind d1 ?_
              by_cases n1 : hv (rd (bytesOf s) ((i + 1 : Nat) : Int)) < 0
              · rw [if_pos n1, if_pos (.inr (.inl n1))]
                refine Ev.pos (by omega) ?_
                exact hbad
              · rw [if_neg n1]
                rw [if_neg n1] at d1
                refine Ev.neg (by omega) ?_
                refine Ev.pos (by omega) ?_
                refine Ev.pos (by omega) ?_
                refine Ev.bind d2 ?_
                by_cases n2 : hv (rd (bytesOf s) ((i + 2 : Nat) : Int)) < 0
                · rw [if_pos n2, if_pos (.inr (.inr n2))]
                  exact hbad
                · rw [if_neg n2, if_neg (by omega), decide_eq_false (by omega)]
                  rw [if_neg n2] at d2
                  refine Ev.step (by intro k; rw [quoted_Decode.j2]) ?_
                  refine Ev.neg (by decide) ?_
                  rw [wrap64_id ((i : Int) + 1) (by omega) (by omega), wrap64_id ((i : Int) + 2) (by omega) (by omega)]
                  refine Ev.pos (by omega) ?_
                  refine Ev.pos (by omega) ?_
                  rw [show ((i : Int) + 1) = ((i + 1 : Nat) : Int) by omega, show ((i : Int) + 2) = ((i + 2 : Nat) : Int) by omega]
                  rw [← rd_bytesOf, ← rd_bytesOf]
                  refine Ev.bind d1 ?_
                  refine Ev.pos (by omega) ?_
                  refine Ev.pos (by omega) ?_
                  refine Ev.bind d2 ?_
                  refine Ev.pos (by omega) ?_
                  rw [or_dig _ _ (by omega) (by omega) (by omega) (by omega), wrap64_id _ (by omega) (by omega)]
                  exact ih f (by omega) (i + 3) _ (by omega) (by omega) (by simp; omega)
            · rw [if_pos (.inl (by omega))]
              refine Ev.pos (by omega) ?_
              exact hbad
        · refine Ev.neg h61 ?_
          rw [if_neg h61]
          refine Ev.step (by intro k; rw [quoted_Decode.j1]) ?_
          refine Ev.neg (by decide) ?_
          refine Ev.neg h61 ?_
          by_cases hb : isBl (rd (bytesOf s) (i : Int)) = true
          · have hb2 := hb
            simp only [isBl, decide_eq_true_eq] at hb2
            have H : Ev (fun k => quoted_Decode.j3 k s out (i : Int) (rd (bytesOf s) (i : Int)) true) (decQ (bytesOf s) (f + 1) i out) := by
              have hsk := skp_le (bytesOf s) (s.size - i) i (by omega)
              have hskall := skp_all (bytesOf s) (s.size - i) i
              have hst := skp_step (bytesOf s) i (by omega) hb
              have hsk1 := skp_le (bytesOf s) ((bytesOf s).length - (i + 1)) (i + 1) (by omega)
              rw [HL] at hst hsk1
              have htr := trl_skp (bytesOf s) i
              rw [HL] at htr
              have hbe := blanks_ev s hs i hi
              rw [HL] at hsk
              generalize hn : skp (bytesOf s) (s.size - i) i = e at *
              obtain ⟨n, rfl⟩ : ∃ n, e = i + n := ⟨e - i, by omega⟩
              have hn1 : 1 ≤ n := by omega
              have hrun := dec_run (bytesOf s) n (f + 1 - n) i out (fun j h1 h2 => hskall j h1 h2)
              rw [show f + 1 - n + n = f + 1 by omega] at hrun
              rw [hrun]
              refine Ev.step (by intro k; rw [quoted_Decode.j3]) ?_
              refine Ev.pos rfl ?_
              refine Ev.bind hbe ?_
              rw [show ((i + n - i : Nat) : Int) = (n : Int) by omega, wrap64_id ((i : Int) + n) (by omega) (by omega)]
              by_cases hend : i + n < s.size
              · refine Ev.pos (by omega) ?_
                rw [pair_eq s ((i : Int) + n) (by omega) (by omega)]
                simp only [Option.bind_some]
                rw [decide_eq_false (by omega), Bool.false_or, show ((i + n : Nat) : Int) = (i : Int) + n by omega] at htr
                by_cases hpn : prs (bytesOf s) ((i : Int) + n) = true
                · refine Ev.pos hpn ?_
                  rw [if_pos (by rw [htr]; exact hpn)]
                  have h9 := ih (f + 1 - n) (by omega) (i + n) out (by omega) (by omega) (by omega)
                  simpa using h9
                · refine Ev.neg hpn ?_
                  rw [if_neg (by rw [htr]; exact hpn)]
                  refine Ev.pos (by omega) ?_
                  refine Ev.pos (by omega) ?_
                  refine Ev.pos (by omega) ?_
                  rw [show ((i : Int)).toNat = i by omega, show ((i : Int) + n).toNat = i + n by omega]
                  refine Ev.pos (by simp; omega) ?_
                  rw [ext_bytes, show i + n - i = n by omega]
                  have h9 := ih (f + 1 - n) (by omega) (i + n) (out ++ ((bytesOf s).drop i).take n) (by omega) (by omega) (by rw [List.length_append, List.length_take]; omega)
                  simpa using h9
              · refine Ev.neg (by omega) ?_
                rw [if_pos (by rw [htr, decide_eq_true (by omega)]; rfl)]
                have h9 := ih (f + 1 - n) (by omega) (i + n) out (by omega) (by omega) (by omega)
                simpa using h9
            rw [decQ, if_neg (by omega), if_neg hp, if_neg h61] at H
            by_cases h32 : rd (bytesOf s) (i : Int) = 32
            · refine Ev.pos h32 ?_
              exact H
            · refine Ev.neg h32 ?_
              rw [show (rd (bytesOf s) (i : Int) == 9) = true from beq_iff_eq.mpr (by omega)]
              exact H
          · have hb' : isBl (rd (bytesOf s) (i : Int)) = false := by simpa using hb
            have hb2 := hb'
            simp only [isBl, decide_eq_false_iff_not] at hb2
            refine Ev.neg (by omega) ?_
            rw [show (rd (bytesOf s) (i : Int) == 9) = false from beq_eq_false_iff_ne.mpr (by omega)]
            refine Ev.step (by intro k; rw [quoted_Decode.j3]) ?_
            refine Ev.neg (by decide) ?_
            have htf : trl (bytesOf s) i = false := by
              rw [trl_skp, skp_not _ _ _ hb', decide_eq_false (by omega)]
              simpa using hp
            by_cases c1 : rd (bytesOf s) (i : Int) < 32
            · rw [if_pos (by omega)]
              refine Ev.pos c1 ?_
              exact Ev.done _
            · refine Ev.neg c1 ?_
              by_cases c2 : rd (bytesOf s) (i : Int) > 126
              · rw [if_pos (by omega)]
                refine Ev.pos c2 ?_
                exact Ev.done _
              · rw [if_neg (by omega), if_neg (by rw [htf]; decide)]
                refine Ev.neg c2 ?_
                refine Ev.pos (by omega) ?_
                rw [wrap64_id _ (by omega) (by omega)]
                exact ih f (by omega) (i + 1) _ (by omega) (by omega) (by simp; omega)
    · refine Ev.step (by intro k; rw [quoted_Decode.l0]) ?_
      refine Ev.neg (by omega) ?_
      have e : decQ (bytesOf s) f i out = (out, 0, 0) := by
        cases f with
        | zero => rfl
        | succ f => rw [decQ, if_pos (by omega)]
      rw [e]
      exact Ev.done _
def decK (xs : List Int) : List Int × Int × Int := decQ xs xs.length 0 []
open PQuotedEncodes in
theorem qdec_ev (s : ByteArray) (hs : s.size ≤ 4194304) : Ev (fun k => quoted_Decode.f k s) (decK (bytesOf s)) := by
  unfold quoted_Decode.f
  refine Ev.neg (by omega) ?_
  rw [decK, bytesOf_length]
  exact qdec_loop s hs s.size 0 [] (by omega) (by omega) (by simp)
end Go.Proofs.Ytdebimpjbcihhaa
