/- quoted: pairs, digits, blanks: what the printed functions come to. -/
import Derived.Test.YtdebimpjbcihhaaEv
import Derived.Test.YtdebimpjbcihhaaPQuotedEncodesx1
import Derived.Test.YtdebimpjbcihhaaPQuotedEncodesx2
import Derived.Test.YtdebimpjbcihhaaPQuotedEncodesx3
import Derived.Lib.IndexBytes
namespace Go.Proofs.Ytdebimpjbcihhaa
open Go.RowKit Go.Proofs.YtdebimpjbcihhaaW.PrintWords

theorem bytesOf_bytes (s : ByteArray) : Bytes (bytesOf s) := by
  intro x hx
  simp only [bytesOf, List.mem_map] at hx
  obtain ⟨b, _, rfl⟩ := hx
  have := b.toNat_lt
  omega
/-- Does a pair stand at a place? -/
def prs (xs : List Int) (i : Int) : Bool := decide (rd xs i = 13 ∧ i + 1 < xs.length ∧ rd xs (i + 1) = 10)
theorem toList_data (s : ByteArray) : s.toList = s.data.toList := Go.ByteArray.toList_eq s
theorem ext_data (s : ByteArray) (a b : Nat) : (s.extract a b).toList = (s.data.toList.drop a).take (b - a) := by
  rw [Go.ByteArray.toList_eq]
  simp
theorem u8_is (b : UInt8) (n : Nat) (h : n < 256) : (b = UInt8.ofNat n) ↔ ((b.toNat : Int) = n) := by
  constructor
  · intro e; subst e; simp; omega
  · intro e
    apply UInt8.toNat_inj.mp
    simp
    omega
theorem rd_data (s : ByteArray) (i : Nat) (h : i < s.size) : rd (bytesOf s) (i : Int) = ((s.data.toList[i]'(by simpa using h)).toNat : Int) := by
  have hl : i < (bytesOf s).length := by rw [bytesOf_length]; exact h
  rw [rd_lt _ i hl]
  simp [bytesOf]
theorem pre_eq (s : ByteArray) (i : Nat) (hi : i ≤ s.size) (h2 : i + 2 ≤ s.size) : (((s.extract i s.size).extract 0 2).toList == [13, 10]) = prs (bytesOf s) (i : Int) := by
  have hl : s.data.toList.length = s.size := by simp
  have e1 : (s.extract i s.size).data.toList = s.data.toList.drop i := Lib.extract_to_end s i
  rw [ext_data, e1, List.drop_zero, List.drop_eq_getElem_cons (show i < s.data.toList.length by omega), List.drop_eq_getElem_cons (show i + 1 < s.data.toList.length by omega)]
  have r1 := rd_data s i (by omega)
  have r2 := rd_data s (i + 1) (by omega)
  rw [prs, bytesOf_length, r1, show ((i : Int) + 1) = ((i + 1 : Nat) : Int) by omega, r2]
  rw [Bool.eq_iff_iff, beq_iff_eq, decide_eq_true_eq]
  simp only [List.take_succ_cons, List.take_zero, List.cons.injEq, and_true]
  have a1 := u8_is (s.data.toList[i]'(by omega)) 13 (by omega)
  have a2 := u8_is (s.data.toList[i + 1]'(by omega)) 10 (by omega)
  constructor
  · rintro ⟨h3, h4⟩
    exact ⟨a1.1 h3, by omega, a2.1 h4⟩
  · rintro ⟨h3, _, h4⟩
    exact ⟨a1.2 h3, a2.2 h4⟩
open PQuotedEncodes in
theorem pair_eq (s : ByteArray) (i : Int) (h0 : 0 ≤ i) (h1 : i ≤ s.size) : quoted_pair.f s i = some (prs (bytesOf s) i) := by
  obtain ⟨j, rfl⟩ := Int.eq_ofNat_of_zero_le h0
  have hs : (s.extract j s.size).size = s.size - j := by simp
  unfold quoted_pair.f strings_HasPrefix.f stringslite_HasPrefix.f
  rw [if_pos h0, if_pos h1]
  simp only [Int.toNat_natCast, hs]
  rw [show (⟨#[13, 10]⟩ : ByteArray).size = 2 from rfl]
  by_cases h2 : j + 2 ≤ s.size
  · rw [if_pos (by omega), if_pos (by decide), if_pos (by omega)]
    have e := pre_eq s j (by omega) h2
    simp only [Option.bind_some]
    rw [← e, show (⟨#[13, 10]⟩ : ByteArray).toList = [13, 10] from by rw [Go.ByteArray.toList_eq]]
  · rw [if_neg (by omega), prs, decide_eq_false]
    · rfl
    · rw [bytesOf_length]; omega
/-- A digit of sixteen. -/
def hexD (n : Int) : Int := if n < 10 then 48 + n else 55 + n
def digB (c : Int) : List Int := [hexD (c / 16), hexD (c % 16)]
open PQuotedEncodes in
theorem digits_all : ∀ c : Fin 256, quoted_Digits.f (c.val : Int) = some (strOfNums (digB c.val)) := by decide +kernel
open PQuotedEncodes in
theorem digits_eq (c : Int) (h0 : 0 ≤ c) (h1 : c ≤ 255) : quoted_Digits.f c = some (strOfNums (digB c)) := by
  have h := digits_all ⟨c.toNat, by omega⟩
  rwa [show ((c.toNat : Nat) : Int) = c by omega] at h
open PQuotedEncodes in
theorem rdigits_eq (c : Int) (h0 : 0 ≤ c) (h1 : c ≤ 255) : posthornref03_Digits.f c = some (strOfNums (digB c)) := by
  unfold posthornref03_Digits.f posthornref03_hex.f
  rw [tdiv_pos c 16 h0, tmod_pos c 16 h0, show c / 16 % 256 = c / 16 by omega]
  unfold digB hexD
  by_cases h2 : c / 16 < 10 <;> by_cases h3 : c % 16 < 10 <;> simp [h2, h3] <;> (congr 3 <;> omega)
/-- A digit's number; -1: it is none. -/
def hv (c : Int) : Int := if 48 ≤ c ∧ c ≤ 57 then c - 48 else if 65 ≤ c ∧ c ≤ 70 then c - 55 else if 97 ≤ c ∧ c ≤ 102 then c - 87 else -1
open PQuotedEncodes in
theorem digit_all : ∀ c : Fin 256, quoted_digit.f 5 (c.val : Int) = some (if hv c.val < 0 then 16 else hv c.val) := by decide +kernel
open PQuotedEncodes in
theorem digit_ev (c : Int) (h0 : 0 ≤ c) (h1 : c ≤ 255) : Ev (fun k => quoted_digit.f k c) (if hv c < 0 then 16 else hv c) := by
  refine Ev.mono (fun k => quoted_digit.mono c k) 5 ?_
  have h := digit_all ⟨c.toNat, by omega⟩
  rwa [show ((c.toNat : Nat) : Int) = c by omega] at h
open PQuotedEncodes in
theorem rpair_eq (l : List Int) (i : Int) (h0 : 0 ≤ i) (h1 : i ≤ 9000000000000000000) (hl : (l.length : Int) ≤ 9000000000000000000) : posthornref03_Pair.f l i = some (prs l i) := by
  unfold posthornref03_Pair.f prs
  rw [wrap64_id (i + 1) (by omega) (by omega)]
  by_cases h2 : i + 1 < l.length
  · rw [if_pos h2, if_pos h0, if_pos (by omega)]
    by_cases h3 : rd l i = 13
    · rw [if_pos h3, if_pos (by omega)]
      congr 1
      rw [Bool.eq_iff_iff, beq_iff_eq, decide_eq_true_eq]
      exact ⟨fun h => ⟨h3, h2, h⟩, fun h => h.2.2⟩
    · rw [if_neg h3, decide_eq_false (fun h => h3 h.1)]
  · rw [if_neg h2, decide_eq_false (fun h => h2 h.2.1)]
end Go.Proofs.Ytdebimpjbcihhaa
