/- quoted: Encode. -/
import Derived.Test.YtdebimpjbcihhaaQWalk
namespace Go.Proofs.Ytdebimpjbcihhaa
open Go.RowKit Go.Proofs.YtdebimpjbcihhaaW.PrintWords

/-- The lines of bytes, from a place on. -/
def encQ (txt : Bool) (xs : List Int) : Nat → Nat → Int → List Int
  | 0, _, _ => []
  | f + 1, i, line => if xs.length ≤ i then [] else if (txt && prs xs i) = true then [13, 10] ++ encQ txt xs f (i + 2) 0
    else (if 75 < line + ((sgnB xs i).length : Int) then [61, 13, 10] else []) ++ sgnB xs i ++ encQ txt xs f (i + 1) ((if 75 < line + ((sgnB xs i).length : Int) then 0 else line) + ((sgnB xs i).length : Int))
theorem sgnB_len (xs : List Int) (i : Int) : 1 ≤ (sgnB xs i).length ∧ (sgnB xs i).length ≤ 3 := by
  unfold sgnB
  split <;> simp [digB]
theorem hexD_range (n : Int) (h0 : 0 ≤ n) (h1 : n ≤ 15) : 48 ≤ hexD n ∧ hexD n ≤ 70 := by
  unfold hexD
  split <;> omega
theorem sgnB_bytes (xs : List Int) (i : Nat) (hb : Bytes xs) : Bytes (sgnB xs i) := by
  have hx := hb.rd i
  unfold sgnB
  split
  · intro y hy; simp at hy; omega
  · intro y hy
    have h1 := hexD_range (rd xs i / 16) (by omega) (by omega)
    have h2 := hexD_range (rd xs i % 16) (by omega) (by omega)
    simp only [digB, List.mem_cons, List.not_mem_nil, or_false] at hy
    omega
theorem bytesOf_str (xs : List Int) (h : Bytes xs) : bytesOf (strOfNums xs) = xs := by
  apply U8_inj (bytesOf_bytes _) h
  simp only [U8, bytesOf, List.map_map]
  have h2 : (strOfNums xs).data.toList = U8 xs := by
    rw [← Go.ByteArray.toList_eq]; exact sn_toList xs
  rw [h2]
  simp only [U8, List.map_map]
  refine List.map_congr_left fun x hx => ?_
  have := h x hx
  simp
  congr 1
  omega
theorem sn_size (xs : List Int) : (strOfNums xs).size = xs.length := by simp [strOfNums, ByteArray.size]
theorem encQ_end (txt : Bool) (xs : List Int) (f i : Nat) (line : Int) (h : xs.length ≤ i) : encQ txt xs f i line = [] := by
  cases f with
  | zero => rfl
  | succ f => rw [encQ, if_pos h]
set_option maxRecDepth 100000 in
set_option maxHeartbeats 2000000 in
theorem encode_ok (A : Option Addr) (l : List Int) (c : Nat) (txt : Bool) (w : World) (hr : ReadsInt w .u8 A l.length l) (hby : Bytes l) (hl : l.length ≤ 1048576) :
    Calls Try.prog 10 #[.slice A l.length c, .bool txt] w fun e w' => e = .returned (.tuple #[.string (strOfNums (encQ txt l l.length 0 0)), .int .i64 0]) ∧ Below w.heap.size w w' := by
  have cv1 := string_of_reads (P := Try.prog) (A := A) (c := c) (n := l.length) Try.underlying22 Try.underlying5 Try.underlying9 hr
  have HBL : Hid (bytesOf (strOfNums l) = l) := Lib.hid (bytesOf_str l hby)
  have HSZ : Hid ((strOfNums l).size = l.length) := Lib.hid (sn_size l)
  have HBY := Lib.hid hby
  have hsz : (strOfNums l).size ≤ 1048576 := by rw [HSZ.out]; exact hl
  clear hr hby
  go_enter Try.func10, Try.ntmps10
  go_wp2
  generalize strOfNums l = s at *
  have HW0 := Lib.hid (below_first (w := w) (.cells #[.string s] 9))
  have HBX0 : Hid ((w.alloc (.cells #[.string s] 9)).heap[w.heap.size]? = some (.cells #[.string s] 9 (0, 0))) := Lib.hid (heap_alloc_new w _)
  have HE0 : Hid ((w.alloc (.cells #[.string s] 9)).heap.size = w.heap.size + 1) := Lib.hid (by simp [World.alloc_eq])
  go_loopw [8, 10] (fun s8 s10 wr => ∃ (acc : List Int) (line : Int) (i f : Nat), 0 ≤ line ∧ line ≤ 80 ∧ i ≤ s.size ∧ s8 = .int .i64 line ∧ s10 = .int .i64 i ∧ Hid (Bld wr (w.heap.size + 1) (w.heap.size + 1) acc) ∧ Hid (Bytes acc) ∧ Hid (Below (w.heap.size + 1) (w.alloc (.cells #[.string s] 9)) wr) ∧ Hid (encQ txt l l.length 0 0 = acc ++ encQ txt l f i line) ∧ Hid (l.length - i ≤ f) ∧ Hid (acc.length ≤ 6 * i)) (fun _ s10 _ => s.size - (intOf s10).toNat)
  case atStart =>
    refine ⟨[], 0, 0, l.length, Int.le_refl _, by omega, Nat.zero_le _, rfl, rfl, Lib.hid ?_, Lib.hid (fun x hx => by cases hx), Lib.hid ?_, Lib.hid rfl, Lib.hid (by omega), Lib.hid (Nat.zero_le _)⟩
    · have h := Bld.fresh (w.alloc (.cells #[.string s] 9))
      rw [HE0.out] at h; exact h
    · have h := below_first (w := w.alloc (.cells #[.string s] 9)) (.cells #[.pointer none, .slice none 0 0] 38)
      rw [HE0.out] at h; exact h
  case round =>
    obtain ⟨acc, line, i, f, hln0, hln1, hi, rfl, rfl, HB, HAB, HW, HE, Hf, HA⟩ := hrel
    have hbx0 : wr.heap[w.heap.size]? = some (.cells #[.string s] 9 (0, 0)) := (HW.out.block _ (by omega)).trans HBX0.out
    have HBX := Lib.hid hbx0
    have HWS : Hid (w.heap.size + 1 ≤ wr.heap.size) := Lib.hid (by have := HW.out.size; have := HE0.out; omega)
    have c0 : wr.cell? ⟨w.heap.size, 0, none⟩ = some (.string s) := (blk_cell hbx0 0).trans rfl
    clear hbx0
    by_cases hlt : i < s.size
    · obtain ⟨f, rfl⟩ : ∃ g, f = g + 1 := ⟨f - 1, by have := Hf.out; have := HSZ.out; omega⟩
      have HSTEP : Hid (encQ txt l (f + 1) i line = if (txt && prs l i) = true then [13, 10] ++ encQ txt l f (i + 2) 0
          else (if 75 < line + ((sgnB l i).length : Int) then [61, 13, 10] else []) ++ sgnB l i ++ encQ txt l f (i + 1) ((if 75 < line + ((sgnB l i).length : Int) then 0 else line) + ((sgnB l i).length : Int))) := Lib.hid (by
        rw [encQ, if_neg (by have := HSZ.out; omega)])
      go_upto_region 10 with (fail)
      go_cut [29] (fun s29 wx => s29 = .bool (txt && prs l i) ∧ Hid (Bld wx (w.heap.size + 1) (w.heap.size + 1) acc) ∧ Hid (Below (w.heap.size + 1) (w.alloc (.cells #[.string s] 9)) wx) ∧ Hid (wx.heap[w.heap.size]? = some (.cells #[.string s] 9 (0, 0))))
      case first =>
        have HP := Lib.hid (pair_any s i wr (by omega) (by omega))
        rw [HBL.out] at HP
        rcases txt with _ | _
        · go_wp2
          go_meet
          exact ⟨rfl, HB, HW, HBX⟩
        · generalize prs l i = pv at *
          go_wp2_with (first | (go_at_call 18; ((with_reducible refine HP.out.mono ?_); rintro e w1 ⟨rfl, hD1⟩; have HD1 := Lib.hid hD1.below; clear hD1)))
          go_meet
          exact ⟨rfl, Lib.hid (HB.out.below HD1.out), Lib.hid (below_then HW.out HWS.out HD1.out), Lib.hid (blk_below HBX.out HD1.out)⟩
      case rest =>
        clear HB HW HBX HWS c0
        obtain ⟨rfl, HB, HW, HBX⟩ := hcut
        have HWS : Hid (w.heap.size + 1 ≤ wc.heap.size) := Lib.hid (by have := HW.out.size; have := HE0.out; omega)
        have c0 : wc.cell? ⟨w.heap.size, 0, none⟩ = some (.string s) := (blk_cell HBX.out 0).trans rfl
        rcases hpp : (txt && prs l i) with _ | _
        · have HST2 : Hid (encQ txt l (f + 1) i line = (if 75 < line + ((sgnB l i).length : Int) then [61, 13, 10] else []) ++ sgnB l i ++ encQ txt l f (i + 1) ((if 75 < line + ((sgnB l i).length : Int) then 0 else line) + ((sgnB l i).length : Int))) := Lib.hid (by rw [HSTEP.out, hpp, if_neg (by decide)])
          have HSG := Lib.hid (sign_any s i w.heap.size wc hlt (by omega) c0)
          rw [HBL.out] at HSG
          have hxl := sgnB_len l i
          have HXB := Lib.hid (sgnB_bytes l i HBY.out)
          clear HSTEP
          have hxs : ((strOfNums (sgnB l i)).size : Int) = ((sgnB l i).length : Int) := by rw [sn_size]
          have HXO : Hid (bytesOf (strOfNums (sgnB l i)) = sgnB l i) := Lib.hid (bytesOf_str _ HXB.out)
          rw [← hxs] at HST2
          obtain ⟨hx1, hx3⟩ := hxl
          have hy1 : 1 ≤ (strOfNums (sgnB l i)).size := by omega
          have hy3 : (strOfNums (sgnB l i)).size ≤ 3 := by omega
          clear hxs hx1 hx3
          generalize sgnB l i = sg at *
          generalize strOfNums sg = x at *
          have HSGL : Hid (sg.length = x.size) := Lib.hid (by rw [← HXO.out, bytesOf_length])
          by_cases hbig : 75 < line + (x.size : Int)
          · have HST3 : Hid (encQ txt l l.length 0 0 = (acc ++ [61, 13, 10] ++ sg) ++ encQ txt l f (i + 1) (x.size : Int)) := Lib.hid (by rw [HE.out, HST2.out, if_pos hbig, if_pos hbig, Int.zero_add]; simp only [List.append_assoc])
            have HLB : Hid (acc.length + 3 ≤ 140737488355328) := Lib.hid (by have := HA.out; omega)
            have HLB2 : Hid ((acc ++ [61, 13, 10]).length + x.size ≤ 140737488355328) := Lib.hid (by have := HA.out; rw [List.length_append]; simp; omega)
            have HA3 : Hid ((acc ++ [61, 13, 10] ++ sg).length ≤ 6 * (i + 1)) := Lib.hid (by have := HA.out; have := HSGL.out; simp; omega)
            clear HE HST2
            go_wp2_with (first
              | (go_at_call 20; ((with_reducible refine HSG.out.mono ?_); rintro e w1 ⟨rfl, hD1⟩; have hb := hD1.below; have HB1 := Lib.hid (HB.out.below hb); have HW1 := Lib.hid (below_then HW.out HWS.out hb); have HBX1 := Lib.hid (blk_below HBX.out hb); have HWS1 : Hid (w.heap.size + 1 ≤ w1.heap.size) := Lib.hid (Nat.le_trans HWS.out hb.size); have HC1 := Lib.hid (bwrite_string (w.heap.size + 1) (w.heap.size + 1) acc (⟨#[61, 13, 10]⟩ : ByteArray) w1 HB1.out HLB.out HWS1.out); clear hD1 hb))
              | (go_at_call 19; ((with_reducible refine HC1.out.mono ?_); rintro e w2 ⟨rfl, hBl2, hb2⟩; have HB2 : Hid (Bld w2 (w.heap.size + 1) (w.heap.size + 1) (acc ++ [61, 13, 10])) := Lib.hid hBl2; have HW2 := Lib.hid (HW1.out.trans hb2); have HWS2 : Hid (w.heap.size + 1 ≤ w2.heap.size) := Lib.hid (Nat.le_trans HWS1.out hb2.size); have HC2 := Lib.hid (bwrite_string (w.heap.size + 1) (w.heap.size + 1) (acc ++ [61, 13, 10]) x w2 HB2.out HLB2.out HWS2.out); clear hBl2 hb2))
              | (go_at_call 19; ((with_reducible refine HC2.out.mono ?_); rintro e w3 ⟨rfl, hBl3, hb3⟩; rw [HXO.out] at hBl3; have HB3 := Lib.hid hBl3; have HW3 := Lib.hid (HW2.out.trans hb3); clear hBl3 hb3)))
            go_roundw
            case rel => exact ⟨acc ++ [61, 13, 10] ++ sg, x.size, i + 1, f, by omega, by omega, hlt, by go_num, by go_num, HB3, Lib.hid ((HAB.out.append (by intro y hy; simp at hy; omega)).append HXB.out), HW3, HST3, Lib.hid (by have := Hf.out; omega), HA3⟩
            case measure => simp [intOf]; omega
          · have HST3 : Hid (encQ txt l l.length 0 0 = (acc ++ sg) ++ encQ txt l f (i + 1) (line + (x.size : Int))) := Lib.hid (by rw [HE.out, HST2.out, if_neg hbig, if_neg hbig]; simp only [List.append_assoc, List.nil_append])
            have HLB2 : Hid (acc.length + x.size ≤ 140737488355328) := Lib.hid (by have := HA.out; omega)
            have HA3 : Hid ((acc ++ sg).length ≤ 6 * (i + 1)) := Lib.hid (by have := HA.out; have := HSGL.out; simp; omega)
            clear HE HST2
            go_wp2_with (first
              | (go_at_call 20; ((with_reducible refine HSG.out.mono ?_); rintro e w1 ⟨rfl, hD1⟩; have hb := hD1.below; have HB1 := Lib.hid (HB.out.below hb); have HW1 := Lib.hid (below_then HW.out HWS.out hb); have HWS1 : Hid (w.heap.size + 1 ≤ w1.heap.size) := Lib.hid (Nat.le_trans HWS.out hb.size); have HC2 := Lib.hid (bwrite_string (w.heap.size + 1) (w.heap.size + 1) acc x w1 HB1.out HLB2.out HWS1.out); clear hD1 hb))
              | (go_at_call 19; ((with_reducible refine HC2.out.mono ?_); rintro e w3 ⟨rfl, hBl3, hb3⟩; rw [HXO.out] at hBl3; have HB3 := Lib.hid hBl3; have HW3 := Lib.hid (HW1.out.trans hb3); clear hBl3 hb3)))
            go_roundw
            case rel => exact ⟨acc ++ sg, line + x.size, i + 1, f, by omega, by omega, hlt, by go_num, by go_num, HB3, Lib.hid (HAB.out.append HXB.out), HW3, HST3, Lib.hid (by have := Hf.out; omega), HA3⟩
            case measure => simp [intOf]; omega
        · have HST3 : Hid (encQ txt l l.length 0 0 = (acc ++ [13, 10]) ++ encQ txt l f (i + 2) 0) := Lib.hid (by rw [HE.out, HSTEP.out, hpp, if_pos rfl]; simp only [List.append_assoc])
          have HI2 : Hid (i + 2 ≤ s.size) := Lib.hid (by
            have h9 : prs l i = true := by
              rcases txt with _ | _
              · simp at hpp
              · simpa using hpp
            simp only [prs, decide_eq_true_eq] at h9
            have := HSZ.out
            omega)
          have hi2 := HI2.out
          have HLB : Hid (acc.length + 2 ≤ 140737488355328) := Lib.hid (by have := HA.out; omega)
          have HA3 : Hid ((acc ++ [13, 10]).length ≤ 6 * (i + 2)) := Lib.hid (by have := HA.out; simp; omega)
          have HC1 := Lib.hid (bwrite_string (w.heap.size + 1) (w.heap.size + 1) acc (⟨#[13, 10]⟩ : ByteArray) wc HB.out HLB.out HWS.out)
          clear HE HSTEP
          go_wp2_with (first
            | (go_at_call 19; ((with_reducible refine HC1.out.mono ?_); rintro e w2 ⟨rfl, hBl2, hb2⟩; have HB2 : Hid (Bld w2 (w.heap.size + 1) (w.heap.size + 1) (acc ++ [13, 10])) := Lib.hid hBl2; have HW2 := Lib.hid (HW.out.trans hb2); clear hBl2 hb2)))
          go_roundw
          case rel => exact ⟨acc ++ [13, 10], 0, i + 2, f, by omega, by omega, hi2, rfl, by go_num, HB2, Lib.hid (HAB.out.append (by intro y hy; simp at hy; omega)), HW2, HST3, Lib.hid (by have := Hf.out; omega), HA3⟩
          case measure => simp [intOf]; omega
    · have HE2 : Hid (encQ txt l l.length 0 0 = acc) := Lib.hid (by rw [HE.out, encQ_end txt l f i line (by have := HSZ.out; omega), List.append_nil])
      have HS := Lib.hid (bstring (w.heap.size + 1) (w.heap.size + 1) acc wr HB.out HAB.out HWS.out)
      go_wp2_with (first | (go_at_call 21; ((with_reducible refine HS.out.mono ?_); rintro e w1 ⟨rfl, hb1⟩; have HB1 := Lib.hid (HW.out.trans hb1); clear hb1)))
      go_ret2
      rw [HE2.out]
      refine ⟨rfl, ?_⟩
      have h1 := HW0.out
      have h2 := HB1.out
      rw [← HE0.out] at h2
      exact below_then h1 h1.size h2
end Go.Proofs.Ytdebimpjbcihhaa
