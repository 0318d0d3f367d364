/- The document's quoted: Sign, Encode. -/
import Derived.Test.YtdebimpjbcihhaaQEnc
namespace Go.Proofs.Ytdebimpjbcihhaa
open Go.RowKit Go.Proofs.YtdebimpjbcihhaaW.PrintWords

theorem rpair_any (A : Option Addr) (c : Nat) (l : List Int) (i : Int) (w : World) (hr : ReadsInt w .u8 A l.length l) (hc : l.length ≤ c) (h0 : 0 ≤ i) (h1 : i ≤ 9000000000000000000) (hl : l.length ≤ 100000000) :
    Calls Try.prog 16 #[.slice A l.length c, .int .i64 i] w fun e w' => e = .returned (.bool (prs l i)) ∧ Drawn0 w w' :=
  PQuotedEncodes.posthornref03_Pair.calls A c l i _ w (Kd.C_of_reads (readsInt_of.1 hr)) hc (rpair_eq l i h0 h1 (by omega))
theorem rdigits_any (x : Int) (w : World) (h0 : 0 ≤ x) (h1 : x ≤ 255) : Calls Try.prog 13 #[.int .u8 x] w fun e w' => e = .returned (.string (strOfNums (digB x))) ∧ Below w.heap.size w w' :=
  PQuotedEncodes.posthornref03_Digits.calls x _ w (rdigits_eq x h0 h1)
theorem take_drop_one (l : List Int) (i : Nat) (h : i < l.length) : (l.take (i + 1)).drop i = [rd l (i : Int)] := by
  rw [rd_lt l i h, List.drop_take, List.drop_eq_getElem_cons h, show i + 1 - i = 1 by omega]
  rfl
def sgnC (xs : List Int) (i : Nat) (x : Int) : Bool := decide (printable x ∨ ((x = 32 ∨ x = 9) ∧ endsV xs ((i : Int) + 1) = false))
set_option maxRecDepth 100000 in
set_option maxHeartbeats 1000000 in
theorem rsign_any (A : Option Addr) (c i : Nat) (l : List Int) (w : World) (hr : ReadsInt w .u8 A l.length l) (hby : Bytes l) (hc : l.length ≤ c) (hi : i < l.length) (hl : l.length ≤ 100000000) :
    Calls Try.prog 22 #[.slice A l.length c, .int .i64 i] w fun e w' => e = .returned (.string (strOfNums (sgnB l i))) ∧ Below w.heap.size w w' := by
  have HR := Lib.hid hr
  obtain ⟨ad, rfl, hcell⟩ := hr.at_ (i : Int) (by omega) (by omega)
  simp only [Int.toNat_natCast] at hcell
  have hx := hby.rd i
  have HP := Lib.hid (rpair_any (some ad) c l ((i : Int) + 1) w hr hc (by omega) (by omega) hl)
  have HV : Hid (sgnB l i = if sgnC l i (rd l i) = true then [rd l i] else 61 :: digB (rd l i)) := Lib.hid (by
    unfold sgnB sgnC
    by_cases h : printable (rd l i) ∨ ((rd l i = 32 ∨ rd l i = 9) ∧ endsV l ((i : Int) + 1) = false)
    · rw [if_pos h, if_pos (decide_eq_true h)]
    · rw [if_neg h, if_neg (by simpa using h)])
  have HT := Lib.hid (take_drop_one l i hi)
  obtain ⟨i0, hi0, _, hsz, _⟩ := info_parts infoU8
  obtain ⟨A1, hcut0, hA1, hC1⟩ := print_mid_int (k := .u8) (P := Try.prog) 22 5 Try.underlying22 hi0 hsz (some ad) c l (i : Int) ((i : Int) + 1) (by omega) (by omega) (by omega) hc
  rw [show ((i : Int) + 1).toNat = i + 1 by omega, show ((i : Int)).toNat = i by omega] at hcut0 hA1 hC1
  rw [HT.out] at hcut0 hA1 hC1
  have HA1 := Lib.hid hA1
  have HDG := Lib.hid (fun W => rdigits_any (rd l i) W hx.1 hx.2)
  have HCAT := Lib.hid (cat_61 (digB (rd l i)))
  have hdsz : (strOfNums (digB (rd l i))).size ≤ 2 := by rw [sn_size]; simp [digB]
  clear hr hby hi0 hsz hC1 hA1
  generalize sgnB l i = V at *
  have HSC : Hid (∀ b, endsV l ((i : Int) + 1) = b → sgnC l i (rd l i) = decide (printable (rd l i) ∨ ((rd l i = 32 ∨ rd l i = 9) ∧ b = false))) := Lib.hid (by rintro b rfl; rfl)
  generalize digB (rd l i) = dg at *
  generalize hxx : rd l (i : Int) = x at *
  obtain ⟨hx0, hx1⟩ := hx
  clear hxx
  go_enter Try.func22, Try.ntmps22
  go_upto_region 2 with (fail)
  go_cut [6] (fun s6 wx => s6 = .bool (endsV l ((i : Int) + 1)) ∧ Hid (Below w.heap.size w wx))
  case first =>
    by_cases h : i + 1 = l.length
    · have b1 : ((i : Int) + 1 == (l.length : Int)) = true := beq_iff_eq.mpr (by omega)
      have HH : Hid (endsV l ((i : Int) + 1) = true) := Lib.hid (by rw [endsV, decide_eq_true (by omega)]; rfl)
      clear h
      go_wp2
      go_meet
      exact ⟨by rw [HH.out], Lib.hid (Below.refl _ _)⟩
    · have b1 : ((i : Int) + 1 == (l.length : Int)) = false := beq_eq_false_iff_ne.mpr (by omega)
      have HH : Hid (endsV l ((i : Int) + 1) = prs l ((i : Int) + 1)) := Lib.hid (by rw [endsV, decide_eq_false (by omega)]; rfl)
      clear h
      generalize prs l ((i : Int) + 1) = pv at *
      go_wp2_with (first | (go_at_call 16; ((with_reducible refine HP.out.mono ?_); rintro e w1 ⟨rfl, hD1⟩; have HD1 := Lib.hid hD1.below; clear hD1)))
      go_meet
      exact ⟨by rw [HH.out], HD1⟩
  case rest =>
    obtain ⟨rfl, HW⟩ := hcut
    generalize hE : endsV l ((i : Int) + 1) = E at *
    have HC := Lib.hid (HSC.out E rfl)
    clear HSC hE
    go_upto_region 3 with (fail)
    go_cut [43] (fun s43 wx => wx = wc ∧ s43 = .bool (sgnC l i x))
    case first =>
      by_cases hp : printable x
      · obtain ⟨p1, p2, p3⟩ := hp
        have HD : Hid (decide (printable x ∨ ((x = 32 ∨ x = 9) ∧ E = false)) = true) := Lib.hid (decide_eq_true (.inl ⟨p1, p2, p3⟩))
        have b1 : (x != 61) = true := bne_iff_ne.mpr p3
        clear p3
        go_wp2
        go_meet
        exact ⟨rfl, by rw [HC.out, HD.out]⟩
      · by_cases hb : x = 32 ∨ x = 9
        · have HD : Hid (decide (printable x ∨ ((x = 32 ∨ x = 9) ∧ E = false)) = !E) := Lib.hid (by
            rcases E with _ | _
            · exact decide_eq_true (.inr ⟨hb, rfl⟩)
            · exact decide_eq_false (by rintro (h | h); exact hp h; exact absurd h.2 (by decide)))
          have HQ : Hid (sgnC l i x = !E) := Lib.hid (by rw [HC.out, HD.out])
          generalize sgnC l i x = Q at *
          clear hp HD HC HV
          rcases hb with rfl | rfl
          all_goals
            go_wp2
            go_meet
            exact ⟨rfl, by rw [HQ.out]⟩
        · have HD : Hid (decide (printable x ∨ ((x = 32 ∨ x = 9) ∧ E = false)) = false) := Lib.hid (decide_eq_false (by rintro (h | h); exact hp h; exact hb h.1))
          have b1 : (x == 32) = false := beq_eq_false_iff_ne.mpr (fun h => hb (.inl h))
          have b2 : (x == 9) = false := beq_eq_false_iff_ne.mpr (fun h => hb (.inr h))
          have hk : x ≤ 32 ∨ (33 ≤ x ∧ 127 ≤ x) ∨ (33 ≤ x ∧ x ≤ 126 ∧ x = 61) := by
            unfold printable at hp; omega
          have HQ : Hid (sgnC l i x = false) := Lib.hid (by rw [HC.out, HD.out])
          generalize sgnC l i x = Q at *
          clear hp hb
          rcases hk with h | ⟨h, h2⟩ | ⟨h, h2, h3⟩
          · go_wp2
            go_meet
            exact ⟨rfl, by rw [HQ.out]⟩
          · go_wp2
            go_meet
            exact ⟨rfl, by rw [HQ.out]⟩
          · have b3 : (x != 61) = false := bne_eq_false_iff_eq.mpr h3
            clear h3
            go_wp2
            go_meet
            exact ⟨rfl, by rw [HQ.out]⟩
    case rest =>
      obtain ⟨rfl, rfl⟩ := hcut
      rcases hs : sgnC l i x with _ | _
      · have HV2 : Hid (V = 61 :: dg) := Lib.hid (by rw [HV.out, if_neg (by rw [hs]; decide)])
        go_wp2_with (first | (go_at_call 13; ((with_reducible refine (HDG.out _).mono ?_); rintro e w2 ⟨rfl, hb2⟩; have HB2 := Lib.hid (below_then HW.out HW.out.size hb2); clear hb2)))
        go_ret
        rw [HV2.out, ← HCAT.out]
        exact ⟨rfl, HB2.out⟩
      · have HV2 : Hid (V = [x]) := Lib.hid (by rw [HV.out, if_pos hs])
        have cv1 := string_of_reads (P := Try.prog) (A := A1) (c := c - i) (n := 1) Try.underlying22 Try.underlying5 Try.underlying9 (HA1.out _ (HR.out.below HW.out))
        go_wp2
        go_ret
        rw [HV2.out]
        exact ⟨rfl, HW.out⟩
end Go.Proofs.Ytdebimpjbcihhaa
