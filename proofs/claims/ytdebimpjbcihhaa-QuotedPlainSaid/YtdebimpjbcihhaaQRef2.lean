/- The document's quoted: Encode. -/
import Derived.Test.YtdebimpjbcihhaaQRef
namespace Go.Proofs.Ytdebimpjbcihhaa
open Go.RowKit Go.Proofs.YtdebimpjbcihhaaW.PrintWords

set_option maxRecDepth 100000 in
set_option maxHeartbeats 2000000 in
theorem rencode_ok (A : Option Addr) (l : List Int) (c : Nat) (txt : Bool) (w : World) (hr : ReadsInt w .u8 A l.length l) (hby : Bytes l) (hc : l.length ≤ c) (hl : l.length ≤ 1048576) :
    Calls Try.prog 11 #[.slice A l.length c, .bool txt] w fun e w' => e = .returned (.tuple #[.string (strOfNums (encQ txt l l.length 0 0)), .int .i64 0]) ∧ Below w.heap.size w w' := by
  have HR := Lib.hid hr
  have HBY := Lib.hid hby
  clear hr hby
  go_enter Try.func11, Try.ntmps11
  go_wp2
  go_loopw [6, 7, 8] (fun s6 s7 s8 wr => ∃ (acc : List Int) (line : Int) (i f : Nat), 0 ≤ line ∧ line ≤ 80 ∧ i ≤ l.length ∧ s7 = .int .i64 line ∧ s8 = .int .i64 i ∧ Hid (ORow .u8 5 wr w.heap.size s6 acc) ∧ Hid (Below w.heap.size w wr) ∧ Hid (encQ txt l l.length 0 0 = acc ++ encQ txt l f i line) ∧ Hid (l.length - i ≤ f) ∧ Hid (acc.length ≤ 6 * i)) (fun _ _ s8 _ => l.length - (intOf s8).toNat)
  case atStart => exact ⟨[], 0, 0, l.length, Int.le_refl _, by omega, Nat.zero_le _, rfl, rfl, Lib.hid (ORow.nil _ _ _ _), Lib.hid (Below.refl _ _), Lib.hid rfl, Lib.hid (by omega), Lib.hid (Nat.zero_le _)⟩
  case round =>
    obtain ⟨acc, line, i, f, hln0, hln1, hi, rfl, rfl, HO, HW, HE, Hf, HA⟩ := hrel
    by_cases hlt : i < l.length
    · obtain ⟨f, rfl⟩ : ∃ g, f = g + 1 := ⟨f - 1, by have := Hf.out; omega⟩
      have HSTEP : Hid (encQ txt l (f + 1) i line = if (txt && prs l i) = true then [13, 10] ++ encQ txt l f (i + 2) 0
          else (if 75 < line + ((sgnB l i).length : Int) then [61, 13, 10] else []) ++ sgnB l i ++ encQ txt l f (i + 1) ((if 75 < line + ((sgnB l i).length : Int) then 0 else line) + ((sgnB l i).length : Int))) := Lib.hid (by
        rw [encQ, if_neg (by omega)])
      have HWA := Lib.hid HW.out.size
      go_upto_region 8 with (fail)
      go_cut [24] (fun s24 wx => s24 = .bool (txt && prs l i) ∧ Hid (Below wr.heap.size wr wx))
      case first =>
        have HP := Lib.hid (rpair_any A c l i wr (HR.out.below HW.out) hc (by omega) (by omega) (by omega))
        rcases txt with _ | _
        · go_wp2
          go_meet
          exact ⟨rfl, Lib.hid (Below.refl _ _)⟩
        · generalize prs l i = pv at *
          go_wp2_with (first | (go_at_call 16; ((with_reducible refine HP.out.mono ?_); rintro e w1 ⟨rfl, hD1⟩; have HD1 := Lib.hid hD1.below; clear hD1)))
          go_meet
          exact ⟨rfl, HD1⟩
      case rest =>
        obtain ⟨rfl, HX⟩ := hcut
        have HO1 := Lib.hid (HO.out.below HX.out)
        have HW1 := Lib.hid (below_then HW.out HWA.out HX.out)
        clear HO HW HX HWA
        rcases hpp : (txt && prs l i) with _ | _
        · have HST2 : Hid (encQ txt l (f + 1) i line = (if 75 < line + ((sgnB l i).length : Int) then [61, 13, 10] else []) ++ sgnB l i ++ encQ txt l f (i + 1) ((if 75 < line + ((sgnB l i).length : Int) then 0 else line) + ((sgnB l i).length : Int))) := Lib.hid (by rw [HSTEP.out, hpp, if_neg (by decide)])
          have HSG := Lib.hid (rsign_any A c i l wc (HR.out.below HW1.out) HBY.out hc hlt (by omega))
          have hxl := sgnB_len l i
          have HXB := Lib.hid (sgnB_bytes l i HBY.out)
          clear HSTEP
          have hxs : ((strOfNums (sgnB l i)).size : Int) = ((sgnB l i).length : Int) := by rw [sn_size]
          have HXO : Hid (bytesOf (strOfNums (sgnB l i)) = sgnB l i) := Lib.hid (bytesOf_str _ HXB.out)
          rw [← hxs] at HST2
          obtain ⟨hx1, hx3⟩ := hxl
          have hy1 : 1 ≤ (strOfNums (sgnB l i)).size := by omega
          have hy3 : (strOfNums (sgnB l i)).size ≤ 3 := by omega
          clear hxs hx1 hx3
          generalize sgnB l i = sg at *
          generalize strOfNums sg = x at *
          have HSGL : Hid (sg.length = x.size) := Lib.hid (by rw [← HXO.out, bytesOf_length])
          by_cases hbig : 75 < line + (x.size : Int)
          · have HST3 : Hid (encQ txt l l.length 0 0 = (acc ++ [61, 13, 10] ++ sg) ++ encQ txt l f (i + 1) (x.size : Int)) := Lib.hid (by rw [HE.out, HST2.out, if_pos hbig, if_pos hbig, Int.zero_add]; simp only [List.append_assoc])
            have HLB : Hid ((acc.length + 3) * 1 ≤ 140737488355328) := Lib.hid (by have := HA.out; omega)
            have HLB2 : Hid ((acc ++ [61, 13, 10]).length + x.size ≤ 140737488355328) := Lib.hid (by have := HA.out; rw [List.length_append]; simp; omega)
            have HA3 : Hid ((acc ++ [61, 13, 10] ++ sg).length ≤ 6 * (i + 1)) := Lib.hid (by have := HA.out; have := HSGL.out; simp; omega)
            clear HE HST2
            go_wp2_with (first
              | (go_at_call 22; ((with_reducible refine HSG.out.mono ?_); rintro e w1 ⟨rfl, hb1⟩; have HW2 := Lib.hid (below_then HW1.out HW1.out.size hb1); have HO2 := Lib.hid ((HO1.out.below hb1).alloc (.cells #[.int .u8 61, .int .u8 13, .int .u8 10] 5)); have HW3 := Lib.hid (below_alloc HW2.out (.cells #[.int .u8 61, .int .u8 13, .int .u8 10] 5)); have HLT := Lib.hid (lit_reads .u8 5 w1 [61, 13, 10] #[.int .u8 61, .int .u8 13, .int .u8 10] 3 w1.heap.size rfl rfl rfl (by decide)); clear hb1))
              | (at_builtin; refine print_append_row (w0 := w) w.heap.size rfl (.tmp 38) (.tmp 39) 22 5 .u8 1 rfl Try.underlying22 infoU8 (by decide) _ acc [61, 13, 10] _ _ _ rfl rfl HO2.out HLT.out HW3.out HW3.out.size HLB.out ?_; intro v4 w4 hO4 hb4 _ _; have HO4 : Hid (ORow .u8 5 w4 w.heap.size v4 (acc ++ [61, 13, 10])) := Lib.hid hO4; have HW4 := Lib.hid hb4; clear hO4 hb4)
              | (at_builtin; refine print_append_str (w0 := w) w.heap.size rfl (.tmp 41) (.tmp 42) 22 9 5 rfl Try.underlying22 Try.underlying9 infoU8 _ (acc ++ [61, 13, 10]) x rfl rfl HO4.out HW4.out HW4.out.size HLB2.out ?_; intro v5 w5 hO5 hb5 _; rw [HXO.out] at hO5; have HO5 : Hid (ORow .u8 5 w5 w.heap.size v5 (acc ++ [61, 13, 10] ++ sg)) := Lib.hid hO5; have HW5 := Lib.hid hb5; clear hO5 hb5))
            go_roundw
            case rel => exact ⟨acc ++ [61, 13, 10] ++ sg, x.size, i + 1, f, by omega, by omega, hlt, by go_num, by go_num, HO5, HW5, HST3, Lib.hid (by have := Hf.out; omega), HA3⟩
            case measure => simp [intOf]; omega
          · have HST3 : Hid (encQ txt l l.length 0 0 = (acc ++ sg) ++ encQ txt l f (i + 1) (line + (x.size : Int))) := Lib.hid (by rw [HE.out, HST2.out, if_neg hbig, if_neg hbig]; simp only [List.append_assoc, List.nil_append])
            have HLB2 : Hid (acc.length + x.size ≤ 140737488355328) := Lib.hid (by have := HA.out; omega)
            have HA3 : Hid ((acc ++ sg).length ≤ 6 * (i + 1)) := Lib.hid (by have := HA.out; have := HSGL.out; simp; omega)
            clear HE HST2
            go_wp2_with (first
              | (go_at_call 22; ((with_reducible refine HSG.out.mono ?_); rintro e w1 ⟨rfl, hb1⟩; have HW4 := Lib.hid (below_then HW1.out HW1.out.size hb1); have HO4 := Lib.hid (HO1.out.below hb1); clear hb1))
              | (at_builtin; refine print_append_str (w0 := w) w.heap.size rfl (.tmp 41) (.tmp 42) 22 9 5 rfl Try.underlying22 Try.underlying9 infoU8 _ acc x rfl rfl HO4.out HW4.out HW4.out.size HLB2.out ?_; intro v5 w5 hO5 hb5 _; rw [HXO.out] at hO5; have HO5 : Hid (ORow .u8 5 w5 w.heap.size v5 (acc ++ sg)) := Lib.hid hO5; have HW5 := Lib.hid hb5; clear hO5 hb5))
            go_roundw
            case rel => exact ⟨acc ++ sg, line + x.size, i + 1, f, by omega, by omega, hlt, by go_num, by go_num, HO5, HW5, HST3, Lib.hid (by have := Hf.out; omega), HA3⟩
            case measure => simp [intOf]; omega
        · have HST3 : Hid (encQ txt l l.length 0 0 = (acc ++ [13, 10]) ++ encQ txt l f (i + 2) 0) := Lib.hid (by rw [HE.out, HSTEP.out, hpp, if_pos rfl]; simp only [List.append_assoc])
          have HI2 : Hid (i + 2 ≤ l.length) := Lib.hid (by
            have h9 : prs l i = true := by
              rcases txt with _ | _
              · simp at hpp
              · simpa using hpp
            simp only [prs, decide_eq_true_eq] at h9
            omega)
          have hi2 := HI2.out
          have HLB : Hid ((acc.length + 2) * 1 ≤ 140737488355328) := Lib.hid (by have := HA.out; omega)
          have HA3 : Hid ((acc ++ [13, 10]).length ≤ 6 * (i + 2)) := Lib.hid (by have := HA.out; simp; omega)
          have HO2 := Lib.hid (HO1.out.alloc (.cells #[.int .u8 13, .int .u8 10] 5))
          have HW3 := Lib.hid (below_alloc HW1.out (.cells #[.int .u8 13, .int .u8 10] 5))
          have HLT := Lib.hid (lit_reads .u8 5 wc [13, 10] #[.int .u8 13, .int .u8 10] 2 wc.heap.size rfl rfl rfl (by decide))
          clear HE HSTEP
          go_wp2_with (first
            | (at_builtin; refine print_append_row (w0 := w) w.heap.size rfl (.tmp 25) (.tmp 26) 22 5 .u8 1 rfl Try.underlying22 infoU8 (by decide) _ acc [13, 10] _ _ _ rfl rfl HO2.out HLT.out HW3.out HW3.out.size HLB.out ?_; intro v4 w4 hO4 hb4 _ _; have HO4 : Hid (ORow .u8 5 w4 w.heap.size v4 (acc ++ [13, 10])) := Lib.hid hO4; have HW4 := Lib.hid hb4; clear hO4 hb4))
          go_roundw
          case rel => exact ⟨acc ++ [13, 10], 0, i + 2, f, by omega, by omega, hi2, rfl, by go_num, HO4, HW4, HST3, Lib.hid (by have := Hf.out; omega), HA3⟩
          case measure => simp [intOf]; omega
    · have HE2 : Hid (encQ txt l l.length 0 0 = acc) := Lib.hid (by rw [HE.out, encQ_end txt l f i line (by omega), List.append_nil])
      obtain ⟨A2, c2, rfl, hc2, hr2⟩ := HO.out.reads
      have cv1 := string_of_reads (P := Try.prog) (A := A2) (c := c2) (n := acc.length) Try.underlying22 Try.underlying5 Try.underlying9 hr2
      go_wp2
      go_ret2
      rw [HE2.out]
      exact ⟨rfl, HW.out⟩
end Go.Proofs.Ytdebimpjbcihhaa
