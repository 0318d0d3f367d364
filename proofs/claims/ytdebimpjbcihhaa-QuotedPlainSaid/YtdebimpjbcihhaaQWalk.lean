/- quoted: what the small functions come to. -/
import Derived.Test.YtdebimpjbcihhaaQPlain
import Derived.Test.YtdebimpjbcihhaaBldQ
namespace Go.Proofs.Ytdebimpjbcihhaa
open Go.RowKit Go.Proofs.YtdebimpjbcihhaaW.PrintWords

theorem pair_any (s : ByteArray) (i : Int) (w : World) (h0 : 0 ≤ i) (h1 : i ≤ s.size) : Calls Try.prog 18 #[.string s, .int .i64 i] w fun e w' => e = .returned (.bool (prs (bytesOf s) i)) ∧ Drawn0 w w' :=
  PQuotedEncodes.quoted_pair.calls s i _ w (pair_eq s i h0 h1)
def endsV (xs : List Int) (i : Int) : Bool := decide (i = xs.length) || prs xs i
set_option maxHeartbeats 400000 in
theorem ends_any (s : ByteArray) (i : Int) (b : Nat) (w : World) (h0 : 0 ≤ i) (h1 : i ≤ s.size) (hc : w.cell? ⟨b, 0, none⟩ = some (.string s)) :
    Calls Try.prog 17 #[.int .i64 i, .pointer (some ⟨b, 0, none⟩)] w fun e w' => e = .returned (.bool (endsV (bytesOf s) i)) ∧ Drawn0 w w' := by
  have HL : Hid (endsV (bytesOf s) i = (decide (i = s.size) || prs (bytesOf s) i)) := Lib.hid (by rw [endsV, bytesOf_length])
  have HP := Lib.hid (fun W => pair_any s i W h0 h1)
  by_cases h : i = s.size
  · have b1 : (i == (s.size : Int)) = true := beq_iff_eq.mpr h
    have HH := Lib.hid h
    clear h
    go_enter Try.func17, Try.ntmps17
    go_wp2
    go_ret
    exact ⟨by rw [HL.out, HH.out]; simp, Drawn0.refl w⟩
  · have b1 : (i == (s.size : Int)) = false := beq_eq_false_iff_ne.mpr h
    have HH := Lib.hid h
    clear h
    go_enter Try.func17, Try.ntmps17
    go_wp2_with (first | (go_at_call 18; ((with_reducible refine (HP.out _).mono ?_); rintro e w1 ⟨rfl, hD1⟩; have HD1 := Lib.hid hD1; clear hD1)))
    go_ret
    exact ⟨by rw [HL.out, decide_eq_false HH.out]; simp, HD1.out⟩
theorem drawn_trans {w w1 w2 : World} (h : Drawn0 w w1) (k : Drawn0 w1 w2) : Drawn0 w w2 := by
  obtain ⟨n, rfl⟩ := k
  exact h.step n
theorem ext_one (s : ByteArray) (i : Nat) (h : i < s.size) : s.extract i (i + 1) = strOfNums [rd (bytesOf s) (i : Int)] := by
  apply WideShapes.bytes_inj
  have e : (s.extract i (i + 1)).data.toList = (s.data.toList.drop i).take (i + 1 - i) := by simp
  rw [e, show i + 1 - i = 1 by omega, List.drop_eq_getElem_cons (show i < s.data.toList.length by simpa using h), rd_data s i h]
  simp [strOfNums]
def printable (c : Int) : Prop := 33 ≤ c ∧ c ≤ 126 ∧ c ≠ 61
instance (c : Int) : Decidable (printable c) := by unfold printable; infer_instance
/-- The sign of the byte at a place. -/
def sgnB (xs : List Int) (i : Int) : List Int := if printable (rd xs i) ∨ ((rd xs i = 32 ∨ rd xs i = 9) ∧ endsV xs (i + 1) = false) then [rd xs i] else 61 :: digB (rd xs i)
theorem cat_61 (l : List Int) : (⟨#[61]⟩ : ByteArray) ++ strOfNums l = strOfNums (61 :: l) := by
  apply WideShapes.bytes_inj
  simp [strOfNums]
set_option maxRecDepth 100000 in
set_option maxHeartbeats 1000000 in
theorem sign_any (s : ByteArray) (i b : Nat) (w : World) (h1 : i < s.size) (hs : s.size ≤ 2097152) (hc : w.cell? ⟨b, 0, none⟩ = some (.string s)) :
    Calls Try.prog 20 #[.string s, .int .i64 i, .func (.func 17) #[] #[.pointer (some ⟨b, 0, none⟩)]] w fun e w' => e = .returned (.string (strOfNums (sgnB (bytesOf s) i))) ∧ Drawn0 w w' := by
  have hbt := bt_at s i h1
  simp only [Int.toNat_natCast] at hbt
  have HX := Lib.hid (ext_one s i h1)
  have HV : Hid (sgnB (bytesOf s) i = if printable (bt s i) ∨ ((bt s i = 32 ∨ bt s i = 9) ∧ endsV (bytesOf s) ((i : Int) + 1) = false) then [bt s i] else 61 :: digB (bt s i)) := Lib.hid (by rw [sgnB, rd_bytesOf])
  rw [rd_bytesOf] at HX
  have HE := Lib.hid (ends_any s ((i : Int) + 1) b w (by omega) (by omega) hc)
  have hcr := bt_range s i
  generalize sgnB (bytesOf s) i = V at *
  generalize bt s (i : Int) = c at *
  obtain ⟨hc0, hc1⟩ := hcr
  have HDG := Lib.hid (fun W => PQuotedEncodes.quoted_Digits.calls c _ W (digits_eq c hc0 hc1))
  have HCAT := Lib.hid (cat_61 (digB c))
  have hsz : (strOfNums (digB c)).size ≤ 2 := by simp [strOfNums, digB, ByteArray.size]
  generalize digB c = dg at *
  by_cases hp : printable c
  · have HV2 : Hid (V = [c]) := Lib.hid (by rw [HV.out, if_pos (.inl hp)])
    obtain ⟨p1, p2, p3⟩ := hp
    have b1 : (c != 61) = true := bne_iff_ne.mpr p3
    clear p3 HV
    go_enter Try.func20, Try.ntmps20
    go_wp2
    go_ret
    rw [HV2.out, ← HX.out]
    exact ⟨rfl, Drawn0.refl w⟩
  · by_cases hb : c = 32 ∨ c = 9
    · rcases he : endsV (bytesOf s) ((i : Int) + 1) with _ | _
      · have HV2 : Hid (V = [c]) := Lib.hid (by rw [HV.out, if_pos (.inr ⟨hb, he⟩)])
        rw [he] at HE
        rw [← HV2.out] at HX
        clear HV HV2 hp he
        rcases hb with rfl | rfl
        all_goals
          go_enter Try.func20, Try.ntmps20
          go_wp2_with (first | (go_at_call 17; ((with_reducible refine HE.out.mono ?_); rintro e w1 ⟨rfl, hD1⟩; have HD1 := Lib.hid hD1; clear hD1)))
          go_ret
          rw [← HX.out]
          exact ⟨rfl, HD1.out⟩
      · have HV2 : Hid (V = 61 :: dg) := Lib.hid (by rw [HV.out, if_neg (by rintro (h | h); exact hp h; exact absurd h.2 (by rw [he]; decide))])
        rw [he] at HE
        rw [← HV2.out] at HCAT
        clear HV HV2 hp he
        rcases hb with rfl | rfl
        all_goals
          go_enter Try.func20, Try.ntmps20
          go_wp2_with (first
            | (go_at_call 17; ((with_reducible refine HE.out.mono ?_); rintro e w1 ⟨rfl, hD1⟩; have HD1 := Lib.hid hD1; clear hD1))
            | (go_at_call 12; ((with_reducible refine (HDG.out _).mono ?_); rintro e w2 ⟨rfl, hD2⟩; have HD2 := Lib.hid (drawn_trans HD1.out hD2); clear hD2)))
          go_ret
          rw [← HCAT.out]
          exact ⟨rfl, HD2.out⟩
    · have HV2 : Hid (V = 61 :: dg) := Lib.hid (by rw [HV.out, if_neg (by rintro (h | h); exact hp h; exact hb h.1)])
      rw [← HV2.out] at HCAT
      have b1 : (c == 32) = false := beq_eq_false_iff_ne.mpr (fun h => hb (.inl h))
      have b2 : (c == 9) = false := beq_eq_false_iff_ne.mpr (fun h => hb (.inr h))
      have hk : c ≤ 32 ∨ (33 ≤ c ∧ 127 ≤ c) ∨ (33 ≤ c ∧ c ≤ 126 ∧ c = 61) := by
        unfold printable at hp; omega
      clear HV HV2 hp hb
      rcases hk with h | ⟨h, h2⟩ | ⟨h, h2, h3⟩
      · go_enter Try.func20, Try.ntmps20
        go_wp2_with (first | (go_at_call 12; ((with_reducible refine (HDG.out _).mono ?_); rintro e w2 ⟨rfl, hD2⟩; have HD2 := Lib.hid hD2; clear hD2)))
        go_ret
        rw [← HCAT.out]
        exact ⟨rfl, HD2.out⟩
      · go_enter Try.func20, Try.ntmps20
        go_wp2_with (first | (go_at_call 12; ((with_reducible refine (HDG.out _).mono ?_); rintro e w2 ⟨rfl, hD2⟩; have HD2 := Lib.hid hD2; clear hD2)))
        go_ret
        rw [← HCAT.out]
        exact ⟨rfl, HD2.out⟩
      · have b3 : (c != 61) = false := bne_eq_false_iff_eq.mpr h3
        clear h3
        go_enter Try.func20, Try.ntmps20
        go_wp2_with (first | (go_at_call 12; ((with_reducible refine (HDG.out _).mono ?_); rintro e w2 ⟨rfl, hD2⟩; have HD2 := Lib.hid hD2; clear hD2)))
        go_ret
        rw [← HCAT.out]
        exact ⟨rfl, HD2.out⟩
end Go.Proofs.Ytdebimpjbcihhaa
