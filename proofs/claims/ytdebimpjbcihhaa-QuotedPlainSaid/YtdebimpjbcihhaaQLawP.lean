/- The law QuotedPlain. -/
import Derived.Test.YtdebimpjbcihhaaQLawL
namespace Go.Proofs.Ytdebimpjbcihhaa
open Go.RowKit Go.Shelf Go.Proofs.YtdebimpjbcihhaaW.PrintWords

theorem plain_pair (f i : Nat) (l : List Int) (n : Int) (hp : prs l (i : Int) = true) (h : encP true f (l.drop (i + 2)) 0 = l.drop (i + 2)) : encP true (f + 1) (l.drop i) n = l.drop i := by
  have hp2 := hp
  simp only [prs, decide_eq_true_eq] at hp2
  have hpp := hp
  rw [prs_drop] at hpp
  have e : l.drop i = 13 :: 10 :: l.drop (i + 2) := by
    rw [drop_cons l i (by omega), drop_cons l (i + 1) (by omega), hp2.1, show ((i + 1 : Nat) : Int) = (i : Int) + 1 by omega, hp2.2.2]
  rw [e] at hpp ⊢
  rw [encP, if_pos (by rw [hpp]; rfl)]
  show [13, 10] ++ encP true f (l.drop (i + 2)) 0 = _
  rw [h]; rfl
theorem plain_char (f i : Nat) (l : List Int) (n : Int) (hi : i < l.length) (hp : prs l (i : Int) = false) (hx : printable (rd l (i : Int))) (hn : n + 1 ≤ 75) (h : encP true f (l.drop (i + 1)) (n + 1) = l.drop (i + 1)) : encP true (f + 1) (l.drop i) n = l.drop i := by
  rw [prs_drop] at hp
  rw [drop_cons l i hi] at hp ⊢
  have hs : sg (rd l (i : Int)) (l.drop (i + 1)) = [rd l (i : Int)] := by unfold sg; rw [if_pos (.inl hx)]
  rw [encP, if_neg (by rw [hp]; decide), hs]
  simp only [List.length_cons, List.length_nil]
  rw [if_neg (by omega), if_neg (by omega)]
  show rd l (i : Int) :: encP true f (l.drop (i + 1)) (n + 1) = _
  rw [h]
set_option maxRecDepth 100000 in
set_option maxHeartbeats 2000000 in
theorem plain_law (s : ByteArray) (w : World) (hs0 : s.size ≤ 140737488351232) :
    Calls Try.prog 8 #[.string s] w fun e w' => e = .returned (.bool true) ∧ Below w.heap.size w w' := by
  by_cases hs : 2000 < s.size
  · go_enter Try.func8, Try.ntmps8
    go_wp2_with (first | (go_at_call 9; ((with_reducible refine (alive_any _).mono ?_); rintro e w1 ⟨rfl, hB1⟩; have HB1 := Lib.hid hB1; clear hB1)))
    go_ret
    exact ⟨rfl, HB1.out⟩
  · have hs2 : s.size ≤ 2000 := by omega
    clear hs hs0
    have HL : Hid ((bytesOf s).length = s.size) := Lib.hid (bytesOf_length s)
    have HBY := Lib.hid (bytesOf_bytes s)
    have HST : Hid (strOfNums (bytesOf s) = s) := Lib.hid (by
      apply WideShapes.bytes_inj
      simp only [strOfNums, bytesOf, List.map_map]
      refine List.ext_getElem (by simp) ?_
      intro j h1 h2
      simp)
    have kb := fun W => print_bytes (P := Try.prog) 9 22 5 Try.underlying9 Try.underlying22 Try.underlying5 s W
    have HR1 := Lib.hid (bytes_reads w 5 s (by omega))
    have HW1 := Lib.hid (bytes_below (Below.refl w.heap.size w) (Nat.le_refl _) 5 s)
    have HC1 := Lib.hid (grownCap_ge w s.size 0 5)
    go_enter Try.func8, Try.ntmps8
    go_wp2
    clear kb
    generalize grownCap w s.size 0 5 = cap at *
    generalize hwb : Lib.bytesWorld w 5 s = wb at *
    clear hwb
    generalize bytesOf s = l at *
    go_loopw [4, 5] (fun s3 s4 wr => ∃ (n : Int) (i f : Nat), 0 ≤ n ∧ n ≤ 75 ∧ i ≤ s.size ∧ s3 = .int .i64 n ∧ s4 = .int .i64 i ∧ Hid (Below wb.heap.size wb wr) ∧ Hid (encP true f (l.drop i) n = l.drop i → encP true l.length l 0 = l) ∧ Hid (s.size - i ≤ f)) (fun _ s4 _ => s.size - (intOf s4).toNat)
    case atStart => exact ⟨0, 0, s.size, Int.le_refl _, by omega, Nat.zero_le _, rfl, rfl, Lib.hid (Below.refl _ _), Lib.hid (by rw [← HL.out]; exact fun h => by simpa using h), Lib.hid (by omega)⟩
    case round =>
      obtain ⟨n, i, f, hn0, hn1, hi, rfl, rfl, HW, HLI, Hf⟩ := hrel
      have HAL := Lib.hid (fun (W : World) (h : Below wr.heap.size wr W) => (alive_any W).mono (fun e w9 (h9 : e = .returned (.bool true) ∧ Below W.heap.size W w9) => (⟨h9.1, below_then HW1.out HW1.out.size (below_then HW.out HW.out.size (below_then h h.size h9.2))⟩ : e = .returned (.bool true) ∧ Below w.heap.size w w9)))
      have HRW := Lib.hid (HR1.out.below HW.out)
      by_cases hlt : i < s.size
      · obtain ⟨f, rfl⟩ : ∃ g, f = g + 1 := ⟨f - 1, by have := Hf.out; omega⟩
        have hcell : wr.cell? ⟨w.heap.size, i, none⟩ = some (.int .u8 (rd l (i : Int))) := by
          obtain ⟨ad, he, hc⟩ := HRW.out.at_ (i : Int) (by omega) (by omega)
          cases he; rw [Int.toNat_natCast] at hc; rwa [show (⟨w.heap.size, 0, none⟩ : Addr).add _ = ⟨w.heap.size, _, none⟩ from add_at _ _] at hc
        have HP := Lib.hid (rpair_any (some ⟨w.heap.size, 0, none⟩) cap l (i : Int) wr (by rw [HL.out]; exact HRW.out) (by rw [HL.out]; exact HC1.out) (by omega) (by omega) (by rw [HL.out]; omega))
        rw [HL.out] at HP
        rcases hp : prs l (i : Int) with _ | _
        · rw [hp] at HP
          have HPP := Lib.hid hp
          have HX0 := Lib.hid (HBY.out.rd i)
          generalize hx : rd l (i : Int) = x at *
          have HX := Lib.hid hx
          clear hp hx
          by_cases hn : n + 1 ≤ 75
          · by_cases hpr : printable x
            · have HN : Hid (encP true f (l.drop (i + 1)) (n + 1) = l.drop (i + 1) → encP true l.length l 0 = l) := Lib.hid (fun h => HLI.out (plain_char f i l n (by rw [HL.out]; exact hlt) HPP.out (by rw [HX.out]; exact hpr) hn h))
              obtain ⟨q1, q2, q3⟩ := hpr
              have b1 : (x == 61) = false := beq_eq_false_iff_ne.mpr q3
              clear q3
              go_wp2_with (first
                | (go_at_call 16; ((with_reducible refine HP.out.mono ?_); rintro e w3 ⟨rfl, hD3⟩; have HW3 := Lib.hid (below_then HW.out HW.out.size hD3.below); have hcell3 := pw_cell_below hD3.below hcell; clear hD3)))
              go_roundw
              case rel => exact ⟨n + 1, i + 1, f, by omega, by omega, hlt, by go_num, by go_num, HW3, HN, Lib.hid (by have := Hf.out; omega)⟩
              case measure => simp [intOf]; omega
            · have hk : x < 33 ∨ (33 ≤ x ∧ 126 < x) ∨ ((33 ≤ x ∧ x ≤ 126) ∧ x = 61) := by unfold printable at hpr; omega
              clear hpr
              rcases hk with h | ⟨h, h2⟩ | ⟨⟨h, h2⟩, h3⟩
              · go_wp2_with (first
                  | (go_at_call 16; ((with_reducible refine HP.out.mono ?_); rintro e w3 ⟨rfl, hD3⟩; have HX3 := Lib.hid hD3.below; have hcell3 := pw_cell_below hD3.below hcell; clear hD3))
                  | (go_at_call 9; ((with_reducible refine (HAL.out _ HX3.out).mono ?_); rintro e w7 ⟨rfl, hB7⟩; have HB7 := Lib.hid hB7; clear hB7)))
                go_ret
                exact ⟨rfl, HB7.out⟩
              · go_wp2_with (first
                  | (go_at_call 16; ((with_reducible refine HP.out.mono ?_); rintro e w3 ⟨rfl, hD3⟩; have HX3 := Lib.hid hD3.below; have hcell3 := pw_cell_below hD3.below hcell; clear hD3))
                  | (go_at_call 9; ((with_reducible refine (HAL.out _ HX3.out).mono ?_); rintro e w7 ⟨rfl, hB7⟩; have HB7 := Lib.hid hB7; clear hB7)))
                go_ret
                exact ⟨rfl, HB7.out⟩
              · have b1 : (x == 61) = true := beq_iff_eq.mpr h3
                clear h3
                go_wp2_with (first
                  | (go_at_call 16; ((with_reducible refine HP.out.mono ?_); rintro e w3 ⟨rfl, hD3⟩; have HX3 := Lib.hid hD3.below; have hcell3 := pw_cell_below hD3.below hcell; clear hD3))
                  | (go_at_call 9; ((with_reducible refine (HAL.out _ HX3.out).mono ?_); rintro e w7 ⟨rfl, hB7⟩; have HB7 := Lib.hid hB7; clear hB7)))
                go_ret
                exact ⟨rfl, HB7.out⟩
          · have hn2 : 75 < n + 1 := by omega
            go_wp2_with (first
              | (go_at_call 16; ((with_reducible refine HP.out.mono ?_); rintro e w3 ⟨rfl, hD3⟩; have HX3 := Lib.hid hD3.below; have hcell3 := pw_cell_below hD3.below hcell; clear hD3))
              | (go_at_call 9; ((with_reducible refine (HAL.out _ HX3.out).mono ?_); rintro e w7 ⟨rfl, hB7⟩; have HB7 := Lib.hid hB7; clear hB7)))
            go_ret
            exact ⟨rfl, HB7.out⟩
        · have HI2 : Hid (i + 2 ≤ s.size) := Lib.hid (by
            have h9 := hp
            simp only [prs, decide_eq_true_eq] at h9
            have := HL.out
            omega)
          have hi2 := HI2.out
          have HN : Hid (encP true f (l.drop (i + 2)) 0 = l.drop (i + 2) → encP true l.length l 0 = l) := Lib.hid (fun h => HLI.out (plain_pair f i l n hp h))
          rw [hp] at HP
          clear hp
          go_wp2_with (first
            | (go_at_call 16; ((with_reducible refine HP.out.mono ?_); rintro e w3 ⟨rfl, hD3⟩; have HW3 := Lib.hid (below_then HW.out HW.out.size hD3.below); clear hD3)))
          go_roundw
          case rel => exact ⟨0, i + 2, f, Int.le_refl _, by omega, hi2, rfl, by go_num, HW3, HN, Lib.hid (by have := Hf.out; omega)⟩
          case measure => simp [intOf]; omega
      · have HEQ : Hid (encQ true l l.length 0 0 = l) := Lib.hid (by
          rw [enc_drop, List.drop_zero]
          apply HLI.out
          rw [List.drop_eq_nil_of_le (by rw [HL.out]; omega)]
          cases f <;> rfl)
        have HE := Lib.hid (encode_ok (some ⟨w.heap.size, 0, none⟩) l cap true wr (by rw [HL.out]; exact HRW.out) HBY.out (by rw [HL.out]; omega))
        rw [HEQ.out, HST.out, HL.out] at HE
        go_wp2_with (first
          | (go_at_call 10; ((with_reducible refine HE.out.mono ?_); rintro e w3 ⟨rfl, hB3⟩; have HX3 := Lib.hid hB3; clear hB3))
          | (go_at_call 9; ((with_reducible refine (HAL.out _ HX3.out).mono ?_); rintro e w7 ⟨rfl, hB7⟩; have HB7 := Lib.hid hB7; clear hB7)))
        go_ret
        exact ⟨by simp, HB7.out⟩
end Go.Proofs.Ytdebimpjbcihhaa
