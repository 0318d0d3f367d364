/- Points and their bytes: the plain law. -/
import Derived.Test.YtpbgpbblbohmgaaCPts
namespace Go.Proofs.Ytpbgpbblbohmgaa
open Go.RowKit Go.Proofs.YtpbgpbblbohmgaaW.PrintWords

theorem take_eq_one {l : List Int} {a : Int} : l.take 1 = [a] ↔ 1 ≤ l.length ∧ rd l 0 = a := by
  rcases l with _ | ⟨x, t⟩
  · simp
  · simp [rd]
theorem take_eq_two {l : List Int} {a b : Int} : l.take 2 = [a, b] ↔ 2 ≤ l.length ∧ rd l 0 = a ∧ rd l 1 = b := by
  rcases l with _ | ⟨x, _ | ⟨y, t⟩⟩
  · simp
  · simp
  · simp [rd]
theorem take_eq_three {l : List Int} {a b c : Int} : l.take 3 = [a, b, c] ↔ 3 ≤ l.length ∧ rd l 0 = a ∧ rd l 1 = b ∧ rd l 2 = c := by
  rcases l with _ | ⟨x, _ | ⟨y, _ | ⟨z, t⟩⟩⟩
  · simp
  · simp
  · simp
  · simp [rd]
theorem take_eq_four {l : List Int} {a b c d : Int} : l.take 4 = [a, b, c, d] ↔ 4 ≤ l.length ∧ rd l 0 = a ∧ rd l 1 = b ∧ rd l 2 = c ∧ rd l 3 = d := by
  rcases l with _ | ⟨x, _ | ⟨y, _ | ⟨z, _ | ⟨u, t⟩⟩⟩⟩
  · simp
  · simp
  · simp
  · simp
  · simp [rd]
theorem tail_two {l : List Int} (h : 2 ≤ l.length) : tailOf l 2 = [rd l 1] := by
  rcases l with _ | ⟨x, _ | ⟨y, t⟩⟩
  · simp at h
  · simp at h
  · simp [tailOf, rd]
theorem tail_three {l : List Int} (h : 3 ≤ l.length) : tailOf l 3 = [rd l 1, rd l 2] := by
  rcases l with _ | ⟨x, _ | ⟨y, _ | ⟨z, t⟩⟩⟩
  · simp at h
  · simp at h
  · simp at h
  · simp [tailOf, rd]
theorem tail_four {l : List Int} (h : 4 ≤ l.length) : tailOf l 4 = [rd l 1, rd l 2, rd l 3] := by
  rcases l with _ | ⟨x, _ | ⟨y, _ | ⟨z, _ | ⟨u, t⟩⟩⟩⟩
  · simp at h
  · simp at h
  · simp at h
  · simp at h
  · simp [tailOf, rd]

theorem ok_two (p : Int) : okPN p 2 = true ↔ isPt p = true ∧ 128 ≤ p := by simp [okPN]
theorem ok_three (p : Int) : okPN p 3 = true ↔ isPt p = true ∧ 2048 ≤ p := by simp [okPN]
theorem ok_four (p : Int) : okPN p 4 = true ↔ isPt p = true ∧ 65536 ≤ p := by simp [okPN]
/-- putB, case by case. -/
theorem putB_one {p : Int} (h : isPt p = true) (h1 : p < 128) : putB p = [p] := by simp [putB, h, h1]
theorem putB_two {p : Int} (h : isPt p = true) (h1 : 128 ≤ p) (h2 : p < 2048) : putB p = [192 + p / 64, 128 + p % 64] := by
  simp [putB, h, h2]; omega
theorem putB_three {p : Int} (h : isPt p = true) (h1 : 2048 ≤ p) (h2 : p < 65536) : putB p = [224 + p / 4096, 128 + p / 64 % 64, 128 + p % 64] := by
  simp only [putB, h]; rw [if_neg (by simp), if_neg (by omega), if_neg (by omega), if_pos h2]
theorem putB_four {p : Int} (h : isPt p = true) (h1 : 65536 ≤ p) : putB p = [240 + p / 262144, 128 + p / 4096 % 64, 128 + p / 64 % 64, 128 + p % 64] := by
  simp only [putB, h]; rw [if_neg (by simp), if_neg (by omega), if_neg (by omega), if_neg (by omega)]
theorem isPt_bd {p : Int} (h : isPt p = true) : 0 ≤ p ∧ p ≤ 1114111 ∧ (p < 55296 ∨ 57343 < p) := (isPt_iff p).1 h

/-- A point's bytes at a text's front are told as that point. -/
theorem nextV_put (p : Int) (l : List Int) (h : isPt p = true) (hl : l.take (putB p).length = putB p) : nextV l = (p, (putB p).length, 0) := by
  have hb := isPt_bd h
  by_cases h1 : p < 128
  · rw [putB_one h h1] at hl ⊢
    obtain ⟨hn, hx⟩ := take_eq_one.1 hl
    rw [nextV, if_neg (by omega), if_pos (by omega), hx]; rfl
  · by_cases h2 : p < 2048
    · rw [putB_two h (by omega) h2] at hl ⊢
      obtain ⟨hn, hx, hy⟩ := take_eq_two.1 hl
      have e1 : ldN (rd l 0) = 2 := by rw [ldN, if_pos (by omega)]
      have e2 : ldP (rd l 0) = rd l 0 % 32 := by rw [ldP, if_pos (by omega)]
      have e3 : shiftIn (rd l 0 % 32) [rd l 1] = p := by simp only [shiftIn, List.foldl]; omega
      rw [nextV, if_neg (by omega), if_neg (by omega), e1, e2, tail_two hn, e3, if_neg (by omega), if_pos]
      · rfl
      · refine ⟨?_, ?_⟩
        · simp [contB]; omega
        · simp [okPN, h]; omega
    · by_cases h3 : p < 65536
      · rw [putB_three h (by omega) h3] at hl ⊢
        obtain ⟨hn, hx, hy, hz⟩ := take_eq_three.1 hl
        have e1 : ldN (rd l 0) = 3 := by rw [ldN, if_neg (by omega), if_pos (by omega)]
        have e2 : ldP (rd l 0) = rd l 0 % 16 := by rw [ldP, if_neg (by omega), if_pos (by omega)]
        have e3 : shiftIn (rd l 0 % 16) [rd l 1, rd l 2] = p := by simp only [shiftIn, List.foldl]; omega
        rw [nextV, if_neg (by omega), if_neg (by omega), e1, e2, tail_three hn, e3, if_neg (by omega), if_pos]
        · rfl
        · refine ⟨?_, ?_⟩
          · simp [contB]; omega
          · simp [okPN, h]; omega
      · rw [putB_four h (by omega)] at hl ⊢
        obtain ⟨hn, hx, hy, hz, hu⟩ := take_eq_four.1 hl
        have e1 : ldN (rd l 0) = 4 := by rw [ldN, if_neg (by omega), if_neg (by omega), if_pos (by omega)]
        have e2 : ldP (rd l 0) = rd l 0 % 8 := by rw [ldP, if_neg (by omega), if_neg (by omega), if_pos (by omega)]
        have e3 : shiftIn (rd l 0 % 8) [rd l 1, rd l 2, rd l 3] = p := by simp only [shiftIn, List.foldl]; omega
        rw [nextV, if_neg (by omega), if_neg (by omega), e1, e2, tail_four hn, e3, if_neg (by omega), if_pos]
        · rfl
        · refine ⟨?_, ?_⟩
          · simp [contB]; omega
          · simp [okPN, h]; omega

/-- What Next tells is a point whose bytes stand there. -/
theorem nextV_ok (l : List Int) (hby : Bytes l) (h : (nextV l).2.2 = 0) : isPt (nextV l).1 = true ∧ l.take (nextV l).2.1 = putB (nextV l).1 ∧ (putB (nextV l).1).length = (nextV l).2.1 := by
  have b0 := hby.rd 0
  have b1 := hby.rd 1
  have b2 := hby.rd 2
  have b3 := hby.rd 3
  simp only [Int.natCast_zero, Int.natCast_one] at b0 b1
  rw [show ((2 : Nat) : Int) = 2 from rfl] at b2
  rw [show ((3 : Nat) : Int) = 3 from rfl] at b3
  unfold nextV at h ⊢
  by_cases h0 : l.length = 0
  · rw [if_pos h0] at h; simp at h
  · rw [if_neg h0] at h ⊢
    by_cases h1 : rd l 0 < 128
    · rw [if_pos h1] at h ⊢
      have hp : isPt (rd l 0) = true := (isPt_iff _).2 (by omega)
      exact ⟨hp, by rw [putB_one hp h1]; exact take_eq_one.2 ⟨by omega, rfl⟩, by rw [putB_one hp h1]; rfl⟩
    · rw [if_neg h1] at h ⊢
      by_cases h2 : ldN (rd l 0) = 0 ∨ l.length < ldN (rd l 0)
      · rw [if_pos h2] at h; simp at h
      · rw [if_neg h2] at h ⊢
        by_cases h3 : contB (tailOf l (ldN (rd l 0))) = true ∧ okPN (shiftIn (ldP (rd l 0)) (tailOf l (ldN (rd l 0)))) (ldN (rd l 0)) = true
        · rw [if_pos h3]
          have hln : ldN (rd l 0) ≤ l.length := by omega
          obtain ⟨hc, ho⟩ := h3
          rcases ldN_cases (rd l 0) with e | e | e | e
          · exact absurd (.inl e) h2
          · rw [e] at hc ho hln ⊢
            have hq : rd l 0 / 32 = 6 := by
              unfold ldN at e; split at e
              · assumption
              · split at e <;> (try split at e) <;> simp at e
            rw [tail_two hln] at hc ho ⊢
            rw [ldP, if_pos hq] at ho ⊢
            simp [contB] at hc
            rw [ok_two] at ho
            simp only [shiftIn, List.foldl] at ho
            simp only [shiftIn, List.foldl]
            have hpt := ho.1
            have hpm := ho.2
            refine ⟨hpt, ?_, ?_⟩
            · rw [putB_two hpt (by omega) (by omega)]; exact take_eq_two.2 ⟨hln, by omega, by omega⟩
            · rw [putB_two hpt (by omega) (by omega)]; rfl
          · rw [e] at hc ho hln ⊢
            have hq : ¬ rd l 0 / 32 = 6 ∧ rd l 0 / 16 = 14 := by
              unfold ldN at e; split at e
              · simp at e
              · split at e
                · exact ⟨by assumption, by assumption⟩
                · split at e <;> simp at e
            rw [tail_three hln] at hc ho ⊢
            rw [ldP, if_neg hq.1, if_pos hq.2] at ho ⊢
            simp [contB] at hc
            rw [ok_three] at ho
            simp only [shiftIn, List.foldl] at ho
            simp only [shiftIn, List.foldl]
            have hpt := ho.1
            have hpm := ho.2
            refine ⟨hpt, ?_, ?_⟩
            · rw [putB_three hpt (by omega) (by omega)]; exact take_eq_three.2 ⟨hln, by omega, by omega, by omega⟩
            · rw [putB_three hpt (by omega) (by omega)]; rfl
          · rw [e] at hc ho hln ⊢
            have hq : ¬ rd l 0 / 32 = 6 ∧ ¬ rd l 0 / 16 = 14 ∧ rd l 0 / 8 = 30 := by
              unfold ldN at e; split at e
              · simp at e
              · split at e
                · simp at e
                · split at e
                  · exact ⟨by assumption, by assumption, by assumption⟩
                  · simp at e
            rw [tail_four hln] at hc ho ⊢
            rw [ldP, if_neg hq.1, if_neg hq.2.1, if_pos hq.2.2] at ho ⊢
            simp [contB] at hc
            rw [ok_four] at ho
            simp only [shiftIn, List.foldl] at ho
            simp only [shiftIn, List.foldl]
            have hpt := ho.1
            have hpm := ho.2
            have hbd := isPt_bd hpt
            refine ⟨hpt, ?_, ?_⟩
            · rw [putB_four hpt (by omega)]; exact take_eq_four.2 ⟨hln, by omega, by omega, by omega, by omega⟩
            · rw [putB_four hpt (by omega)]; rfl
        · rw [if_neg h3] at h; simp at h
end Go.Proofs.Ytpbgpbblbohmgaa
