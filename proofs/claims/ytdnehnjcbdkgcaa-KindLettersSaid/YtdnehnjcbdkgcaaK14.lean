/- kind.Write, walked. -/
import Derived.Test.YtdnehnjcbdkgcaaK13
namespace Go.Proofs.Ytdnehnjcbdkgcaa
set_option linter.unusedVariables false
set_option linter.unusedSimpArgs false
open Go.RowKit Go.Shelf Go.Proofs.YtdnehnjcbdkgcaaW.PrintWords PKindReads

set_option maxRecDepth 100000 in
set_option maxHeartbeats 2000000 in
theorem Below.trans_ {w w' : World} (h : Below w.heap.size w w') : Below w.heap.size w w' := h
set_option maxRecDepth 100000 in
set_option maxHeartbeats 2000000 in
theorem write_no (t s : List Int) (ps : List Pm) (A : Option Addr) (c : Nat) (w : World) (hk : KOk t s ps) (hP : PRow w A ps) (hc : ps.length ≤ c) (hr : rightB t s ps = false) :
    Calls Try.prog 13 #[.agg #[.string (St t), .string (St s), .slice A ps.length c]] w fun e w' => e = .returned (.tuple #[.string ⟨#[]⟩, .int .i64 70]) ∧ Below w.heap.size w w' := by
  have HR := Lib.hid (fun (W : World) (hP : PRow W A ps) => right_any t s ps A c W hk hP hc)
  rw [hr] at HR
  have HP := Lib.hid hP
  clear hk hP hr
  go_enter Try.func13, Try.ntmps13
  go_wp2_with (first
    | (go_at_call 17; ((with_reducible refine (HR.out _ (HP.out.alloc_ _)).mono ?_); rintro e w1 ⟨rfl, hB⟩; have HB1 := Lib.hid (below_then ((Below.refl w.heap.size w).alloc (Nat.le_refl _) _) ((Below.refl w.heap.size w).alloc (Nat.le_refl _) _).size hB); clear hB)))
  go_ret2
  exact ⟨rfl, HB1.out⟩
set_option maxRecDepth 100000 in
set_option maxHeartbeats 4000000 in
theorem write_yes (t s : List Int) (ps : List Pm) (A : Option Addr) (c : Nat) (w : World) (hk : KOk t s ps) (hP : PRow w A ps) (hc : ps.length ≤ c) (hr : rightB t s ps = true) :
    Calls Try.prog 13 #[.agg #[.string (St t), .string (St s), .slice A ps.length c]] w fun e w' => e = .returned (.tuple #[.string (St (writeL t s ps)), .int .i64 0]) ∧ Below w.heap.size w w' := by
  have HR := Lib.hid (fun (W : World) (hP : PRow W A ps) => right_any t s ps A c W hk hP hc)
  have HRI := Lib.hid (right_is hr)
  rw [hr] at HR
  have HP := Lib.hid hP
  have HK := Lib.hid hk
  have hn := HRI.out.n
  have ht := small_len HRI.out.t
  have hs := small_len HRI.out.s
  have hcat : St t ++ ⟨#[47]⟩ ++ St s = St (t ++ [47] ++ s) := by rw [show (⟨#[47]⟩ : ByteArray) = St [47] from rfl, St_append, St_append]
  have hby : bytesOf (St t ++ ⟨#[47]⟩ ++ St s) = writeL t s (ps.take 0) := by
    rw [hcat, bytesOf_St (fun y hy => by
      rcases List.mem_append.1 hy with hy | hy
      · rcases List.mem_append.1 hy with hy | hy
        · exact hk.tb y hy
        · rw [List.mem_singleton.1 hy]; omega
      · exact hk.sb y hy)]
    simp [writeL]
  have HCAT := Lib.hid hby
  have hzc : (St t ++ ⟨#[47]⟩ ++ St s).size = t.length + 1 + s.length := by rw [hcat, St_size]; simp; omega
  have HZC := Lib.hid hzc
  have hzt := St_size t
  have hzs := St_size s
  clear hcat hby hzc
  generalize St t = sT at *
  generalize St s = sS at *
  have g1b : (9223372036854775807 < sT.size + 1) = False := eq_false (by omega)
  have g2b : (9223372036854775807 < sT.size + 1 + sS.size) = False := eq_false (by omega)
  clear hzt hzs
  clear hk hP hr
  go_enter Try.func13, Try.ntmps13
  go_wp2_with (first
    | (go_at_call 17; ((with_reducible refine (HR.out _ (HP.out.alloc_ _)).mono ?_); rintro e w1 ⟨rfl, hB⟩; have HB1 := Lib.hid (below_then ((Below.refl w.heap.size w).alloc (Nat.le_refl _) _) ((Below.refl w.heap.size w).alloc (Nat.le_refl _) _).size hB); have HF1 := Lib.hid (blk_below (blk_new w _) hB); have k0 : w1.cell? ⟨w.heap.size, 0, none⟩ = some (.string sT) := (blk_cell HF1.out 0).trans rfl; have k1 : w1.cell? ⟨w.heap.size, 1, none⟩ = some (.string sS) := (blk_cell HF1.out 1).trans rfl; have hb0 := blk_lt HF1.out; have hb1 : w.heap.size ≠ w1.heap.size := Nat.ne_of_lt hb0; have hb2 := hb1.symm; clear hB))
    | (go_at_call 32; ((refine (bwrite_string2 w1.heap.size w1.heap.size _ _ _ (Bld.fresh w1) (by rw [HZC.out]; simp; omega) (by simp)).mono ?_); rintro e w2 ⟨rfl, hBl, hB, hKp⟩; rw [HCAT.out, List.nil_append] at hBl; have HBl := Lib.hid hBl; have HB2 := Lib.hid ((HB1.out.alloc HB1.out.size _).trans (below_low hB HB1.out.size)); have HW2 : Hid (w1.heap.size ≤ w2.heap.size) := Lib.hid (by have := hB.size; simp at this; omega); have HF2 := Lib.hid ((hB.block w.heap.size hb0).trans (blk_alloc HF1.out _)); have k2 : w2.cell? ⟨w.heap.size, 2, none⟩ = some (.slice A ps.length c) := (blk_cell HF2.out 2).trans rfl; clear hBl hB hKp)))
  have HWS : Hid (∀ (W : World) (xs : List Int) (z : ByteArray), Bld W w1.heap.size w1.heap.size xs → xs.length + z.size ≤ 140737488355328 → w1.heap.size ≤ W.heap.size → Calls Try.prog 32 #[.pointer (some ⟨w1.heap.size, 0, none⟩), .string z] W fun e w' => e = .returned (.tuple #[.int .i64 z.size, .nilIface]) ∧ Bld w' w1.heap.size w1.heap.size (xs ++ bytesOf z) ∧ Below w1.heap.size W w' ∧ KpP W w') := Lib.hid (fun W xs z h1 h2 h3 => bwrite_string2 _ _ xs z W h1 h2 h3)
  have HWB : Hid (∀ (W : World) (xs : List Int) (x : Int), Bld W w1.heap.size w1.heap.size xs → xs.length + 1 ≤ 140737488355328 → w1.heap.size ≤ W.heap.size → Calls Try.prog 34 #[.pointer (some ⟨w1.heap.size, 0, none⟩), .int .u8 x] W fun e w' => e = .returned .nilIface ∧ Bld w' w1.heap.size w1.heap.size (xs ++ [x]) ∧ Below w1.heap.size W w' ∧ KpP W w') := Lib.hid (fun W xs x h1 h2 h3 => bwrite_byte2 _ _ xs x W h1 h2 h3)
  go_loopw [21] (fun s21 wr => ∃ k : Nat, k ≤ ps.length ∧ s21 = .int .i64 k ∧ Hid (Bld wr w1.heap.size w1.heap.size (writeL t s (ps.take k))) ∧ Hid (Below w.heap.size w wr) ∧ Hid (w1.heap.size ≤ wr.heap.size)) (fun s21 _ => ps.length - (intOf s21).toNat)
  case atStart => exact ⟨0, Nat.zero_le _, rfl, HBl, HB2, HW2⟩
  case round =>
    obtain ⟨k, hk, rfl, HBr, HB, HW⟩ := hrel
    obtain ⟨wo, hwo⟩ : ∃ wo, wo = wr := ⟨wr, rfl⟩
    subst hwo
    have HLN := Lib.hid (write_len HRI.out k)
    by_cases hlt : k < ps.length
    · have hsucc := write_succ t s ps k hlt
      obtain ⟨ad, rfl, hx0, hx1⟩ := (HP.out.below HB.out).at_ k hlt
      have hp1 := HK.out.p1 ps[k] (List.getElem_mem hlt)
      have hp2 := HK.out.p2 ps[k] (List.getElem_mem hlt)
      have hpr := HRI.out.p ps[k] (List.getElem_mem hlt)
      have hl1 := small_len hpr.1
      have hl2 := valueB_len hpr.2
      generalize ps[k] = p at *
      obtain ⟨p1, p2⟩ := p
      simp only at hx0 hx1 hp1 hp2 hl1 hl2
      have HTK := Lib.hid (fun W => isToken_any p2 W hp2.1 (by omega))
      have hcat : ⟨#[59, 32]⟩ ++ St p1 ++ ⟨#[61]⟩ = St ([59, 32] ++ p1 ++ [61]) := by rw [show (⟨#[61]⟩ : ByteArray) = St [61] from rfl, show (⟨#[59, 32]⟩ : ByteArray) = St [59, 32] from rfl, St_append, St_append]
      have HCB : Hid (bytesOf (⟨#[59, 32]⟩ ++ St p1 ++ ⟨#[61]⟩) = [59, 32] ++ p1 ++ [61]) := Lib.hid (by
        rw [hcat, bytesOf_St (fun y hy => by
          rcases List.mem_append.1 hy with hy | hy
          · rcases List.mem_append.1 hy with hy | hy
            · simp at hy; omega
            · exact hp1.1 y hy
          · rw [List.mem_singleton.1 hy]; omega)])
      have HCZ : Hid ((⟨#[59, 32]⟩ ++ St p1 ++ ⟨#[61]⟩ : ByteArray).size = p1.length + 3) := Lib.hid (by rw [hcat, St_size]; simp)
      have HC2 := Lib.hid (bytesOf_St hp2.1)
      have HZ2 := Lib.hid (St_size p2)
      have HA2 := Lib.hid (fun i hi => St_at hp2.1 i hi)
      have HBY2 := Lib.hid hp2.1
      have hz1 := St_size p1
      clear hcat
      generalize St p1 = q1 at *
      generalize St p2 = q2 at *
      have c1b : (9223372036854775807 < 2 + q1.size) = False := eq_false (by omega)
      have c2b : (9223372036854775807 < 2 + q1.size + 1) = False := eq_false (by omega)
      have HL1 := Lib.hid hl1
      have HL2 := Lib.hid hl2
      clear hz1 hp1 hp2 hpr hl1 hl2 ht hs
      have HSUC := Lib.hid hsucc
      clear hsucc
      have HLA : Hid ((writeL t s (ps.take k)).length + (⟨#[59, 32]⟩ ++ q1 ++ ⟨#[61]⟩ : ByteArray).size ≤ 140737488355328) := Lib.hid (by rw [HCZ.out]; have := HLN.out; have := HL1.out; omega)
      have HLB : Hid ((writeL t s (ps.take k) ++ ([59, 32] ++ p1 ++ [61])).length + q2.size ≤ 140737488355328) := Lib.hid (by rw [HZ2.out]; have := HLN.out; have := HL1.out; have := HL2.out; simp only [List.length_append, List.length_cons, List.length_nil]; omega)
      have HW1S := Lib.hid (HWS.out (wo.alloc (.cells #[.string q1, .string q2] 42)) (writeL t s (ps.take k)) (⟨#[59, 32]⟩ ++ q1 ++ ⟨#[61]⟩) (HBr.out.below ((Below.refl _ _).alloc (Nat.le_refl _) _)) HLA.out (by have := HW.out; simp; omega))
      by_cases htk : tokenB p2 = true
      · have HPW : Hid (parW (p1, p2) = [59, 32] ++ p1 ++ [61] ++ p2) := Lib.hid (by unfold parW valW; simp only; rw [if_pos htk])
        rw [htk] at HTK
        clear htk
        go_wp2_with (first
          | (go_at_call 32; ((with_reducible refine HW1S.out.mono ?_); rintro e w3 ⟨rfl, hBl, hB, hKp⟩; rw [HCB.out] at hBl; have HBl3 := Lib.hid hBl; have HB3 := Lib.hid ((HB.out.alloc HB.out.size _).trans (below_low hB HB1.out.size)); have HW3 : Hid (w1.heap.size ≤ w3.heap.size) := Lib.hid (by have h5 := hB.size; have := HW.out; simp at h5; omega); have HQ3 := Lib.hid (hKp _ _ (blk_new wo _)); have m0 : w3.cell? ⟨wo.heap.size, 0, none⟩ = some (.string q1) := (blk_cell HQ3.out 0).trans rfl; have m1 : w3.cell? ⟨wo.heap.size, 1, none⟩ = some (.string q2) := (blk_cell HQ3.out 1).trans rfl; have HW2S := Lib.hid (HWS.out w3 _ q2 HBl3.out (HLB.out) HW3.out); clear hBl hB hKp))
          | (go_at_call 33; ((with_reducible refine (HTK.out _).mono ?_); rintro e w4 ⟨rfl, rfl⟩))
          | (go_at_call 32; ((with_reducible refine HW2S.out.mono ?_); rintro e w5 ⟨rfl, hBl, hB, hKp⟩; rw [HC2.out] at hBl; have HBl5 := Lib.hid hBl; have HB5 := Lib.hid (HB3.out.trans (below_low hB HB1.out.size)); have HW5 : Hid (w1.heap.size ≤ w5.heap.size) := Lib.hid (Nat.le_trans HW3.out hB.size); clear hBl hB hKp)))
        go_round
        case rel => exact ⟨k + 1, by omega, by go_num, Lib.hid (by rw [HSUC.out, HPW.out]; have h := HBl5.out; simpa only [List.append_assoc] using h), HB5, HW5⟩
        case measure => simp [intOf]; omega
      · have HPW : Hid (parW (p1, p2) = [59, 32] ++ p1 ++ [61] ++ ([34] ++ escL p2 ++ [34])) := Lib.hid (by unfold parW valW; simp only; rw [if_neg htk])
        have htk' : tokenB p2 = false := by simpa using htk
        rw [htk'] at HTK
        have HLC : Hid ((writeL t s (ps.take k) ++ ([59, 32] ++ p1 ++ [61])).length + 1 ≤ 140737488355328) := Lib.hid (by have := HLN.out; have := HL1.out; simp only [List.length_append, List.length_cons, List.length_nil]; omega)
        obtain ⟨X, hX⟩ : ∃ X, writeL t s (ps.take k) ++ ([59, 32] ++ p1 ++ [61]) ++ [34] = X := ⟨_, rfl⟩
        have HX := Lib.hid hX
        have HXL : Hid (X.length ≤ 10200) := Lib.hid (by rw [← hX]; have := HLN.out; have := HL1.out; simp only [List.length_append, List.length_cons, List.length_nil]; omega)
        have HES := Lib.hid (escL_succ p2)
        have HEL := Lib.hid (fun j => escL_len (p2.take j))
        have hq2 : q2.size ≤ 256 := by have := HZ2.out; have := HL2.out; omega
        clear htk htk' hX
        go_wp2_with (first
          | (go_at_call 32; ((with_reducible refine HW1S.out.mono ?_); rintro e w3 ⟨rfl, hBl, hB, hKp⟩; rw [HCB.out] at hBl; have HBl3 := Lib.hid hBl; have HB3 := Lib.hid ((HB.out.alloc HB.out.size _).trans (below_low hB HB1.out.size)); have HW3 : Hid (w1.heap.size ≤ w3.heap.size) := Lib.hid (by have h5 := hB.size; have := HW.out; simp at h5; omega); have HQ3 := Lib.hid (hKp _ _ (blk_new wo _)); have m0 : w3.cell? ⟨wo.heap.size, 0, none⟩ = some (.string q1) := (blk_cell HQ3.out 0).trans rfl; have m1 : w3.cell? ⟨wo.heap.size, 1, none⟩ = some (.string q2) := (blk_cell HQ3.out 1).trans rfl; have HW2B := Lib.hid (HWB.out w3 _ 34 HBl3.out HLC.out HW3.out); clear hBl hB hKp))
          | (go_at_call 33; ((with_reducible refine (HTK.out _).mono ?_); rintro e w4 ⟨rfl, rfl⟩))
          | (go_at_call 34; ((with_reducible refine HW2B.out.mono ?_); rintro e w5 ⟨rfl, hBl, hB, hKp⟩; rw [HX.out] at hBl; have HBl5 := Lib.hid hBl; have HB5 := Lib.hid (HB3.out.trans (below_low hB HB1.out.size)); have HW5 : Hid (w1.heap.size ≤ w5.heap.size) := Lib.hid (Nat.le_trans HW3.out hB.size); have HQ5 := Lib.hid (hKp _ _ HQ3.out); have n1 : w5.cell? ⟨wo.heap.size, 1, none⟩ = some (.string q2) := (blk_cell HQ5.out 1).trans rfl; clear hBl hB hKp)))
        go_loopw [40] (fun s40 wr => ∃ j : Nat, j ≤ q2.size ∧ s40 = .int .i64 j ∧ Hid (Bld wr w1.heap.size w1.heap.size (X ++ escL (p2.take j))) ∧ Hid (Below w.heap.size w wr) ∧ Hid (w1.heap.size ≤ wr.heap.size) ∧ Hid (wr.heap[wo.heap.size]? = some (.cells #[.string q1, .string q2] 42 (0, 0)))) (fun s40 _ => q2.size - (intOf s40).toNat)
        case atStart => exact ⟨0, Nat.zero_le _, rfl, Lib.hid (by have h := HBl5.out; simpa [escL] using h), HB5, HW5, HQ5⟩
        case round =>
          obtain ⟨j, hj, rfl, HBj, HBW, HWj, HQj⟩ := hrel
          clear n1
          have o1 : wr.cell? ⟨wo.heap.size, 1, none⟩ = some (.string q2) := (blk_cell HQj.out 1).trans rfl
          have HLX : Hid ((X ++ escL (p2.take j)).length ≤ 20000) := Lib.hid (by have := HXL.out; have := HEL.out j; have h3 : (p2.take j).length ≤ 256 := Nat.le_trans (List.length_take_le' ..) HL2.out; rw [List.length_append]; omega)
          by_cases hjt : j < q2.size
          · have hjl : j < p2.length := by have := HZ2.out; omega
            have he := HA2.out j hjt
            have hr := HBY2.out.rd j
            have hes := HES.out j hjl
            generalize rd p2 (j : Int) = c at *
            have HWC := Lib.hid (HWB.out wr _ c HBj.out (by have := HLX.out; omega) HWj.out)
            have HWE := Lib.hid (HWB.out wr _ 92 HBj.out (by have := HLX.out; omega) HWj.out)
            by_cases hc1 : c = 34
            · have HEE : Hid (escL (p2.take (j + 1)) = escL (p2.take j) ++ [92, 34]) := Lib.hid (by rw [hes, hc1]; rfl)
              subst hc1
              clear hes hr hjl
              go_wp2_with (first
                | (go_at_call 34; ((with_reducible refine HWE.out.mono ?_); rintro e w6 ⟨rfl, hBl, hB, hKp⟩; have HBl6 := Lib.hid hBl; have HB6 := Lib.hid (HBW.out.trans (below_low hB HB1.out.size)); have HW6 : Hid (w1.heap.size ≤ w6.heap.size) := Lib.hid (Nat.le_trans HWj.out hB.size); have HQ6 := Lib.hid (hKp _ _ HQj.out); have o6 : w6.cell? ⟨wo.heap.size, 1, none⟩ = some (.string q2) := (blk_cell HQ6.out 1).trans rfl; have HW2C := Lib.hid (HWB.out w6 _ 34 HBl6.out (by have := HLX.out; rw [List.length_append, List.length_singleton]; omega) HW6.out); clear hBl hB hKp))
                | (go_at_call 34; ((with_reducible refine HW2C.out.mono ?_); rintro e w7 ⟨rfl, hBl, hB, hKp⟩; have HBl7 := Lib.hid hBl; have HB7 := Lib.hid (HB6.out.trans (below_low hB HB1.out.size)); have HW7 : Hid (w1.heap.size ≤ w7.heap.size) := Lib.hid (Nat.le_trans HW6.out hB.size); have HQ7 := Lib.hid (hKp _ _ HQ6.out); clear hBl hB hKp)))
              go_round
              case rel => exact ⟨j + 1, by omega, by go_num, Lib.hid (by rw [HEE.out]; have h := HBl7.out; simpa only [List.append_assoc, List.singleton_append] using h), HB7, HW7, HQ7⟩
              case measure => simp [intOf]; omega
            · by_cases hc2 : c = 92
              · have HEE : Hid (escL (p2.take (j + 1)) = escL (p2.take j) ++ [92, 92]) := Lib.hid (by rw [hes, hc2]; rfl)
                subst hc2
                clear hes hr hjl
                go_wp2_with (first
                  | (go_at_call 34; ((with_reducible refine HWE.out.mono ?_); rintro e w6 ⟨rfl, hBl, hB, hKp⟩; have HBl6 := Lib.hid hBl; have HB6 := Lib.hid (HBW.out.trans (below_low hB HB1.out.size)); have HW6 : Hid (w1.heap.size ≤ w6.heap.size) := Lib.hid (Nat.le_trans HWj.out hB.size); have HQ6 := Lib.hid (hKp _ _ HQj.out); have o6 : w6.cell? ⟨wo.heap.size, 1, none⟩ = some (.string q2) := (blk_cell HQ6.out 1).trans rfl; have HW2C := Lib.hid (HWB.out w6 _ 92 HBl6.out (by have := HLX.out; rw [List.length_append, List.length_singleton]; omega) HW6.out); clear hBl hB hKp))
                  | (go_at_call 34; ((with_reducible refine HW2C.out.mono ?_); rintro e w7 ⟨rfl, hBl, hB, hKp⟩; have HBl7 := Lib.hid hBl; have HB7 := Lib.hid (HB6.out.trans (below_low hB HB1.out.size)); have HW7 : Hid (w1.heap.size ≤ w7.heap.size) := Lib.hid (Nat.le_trans HW6.out hB.size); have HQ7 := Lib.hid (hKp _ _ HQ6.out); clear hBl hB hKp)))
                go_round
                case rel => exact ⟨j + 1, by omega, by go_num, Lib.hid (by rw [HEE.out]; have h := HBl7.out; simpa only [List.append_assoc, List.singleton_append] using h), HB7, HW7, HQ7⟩
                case measure => simp [intOf]; omega
              · have HEE : Hid (escL (p2.take (j + 1)) = escL (p2.take j) ++ [c]) := Lib.hid (by rw [hes]; unfold escC; rw [if_neg (by omega)])
                have hc1b : (c == 34) = false := beq_eq_false_iff_ne.mpr hc1
                have hc2b : (c == 92) = false := beq_eq_false_iff_ne.mpr hc2
                clear hes hjl
                go_wp2_with (first
                  | (go_at_call 34; ((with_reducible refine HWC.out.mono ?_); rintro e w7 ⟨rfl, hBl, hB, hKp⟩; have HBl7 := Lib.hid hBl; have HB7 := Lib.hid (HBW.out.trans (below_low hB HB1.out.size)); have HW7 : Hid (w1.heap.size ≤ w7.heap.size) := Lib.hid (Nat.le_trans HWj.out hB.size); have HQ7 := Lib.hid (hKp _ _ HQj.out); clear hBl hB hKp)))
                go_round
                case rel => exact ⟨j + 1, by omega, by go_num, Lib.hid (by rw [HEE.out]; have h := HBl7.out; simpa only [List.append_assoc] using h), HB7, HW7, HQ7⟩
                case measure => simp [intOf]; omega
          · have hje : j = q2.size := by omega
            have HFU : Hid (p2.take j = p2) := Lib.hid (by rw [hje, HZ2.out, List.take_length])
            have HWF := Lib.hid (HWB.out wr _ 34 HBj.out (by have := HLX.out; omega) HWj.out)
            subst hje
            go_wp2_with (first
              | (go_at_call 34; ((with_reducible refine HWF.out.mono ?_); rintro e w7 ⟨rfl, hBl, hB, hKp⟩; have HBl7 := Lib.hid hBl; have HB7 := Lib.hid (HBW.out.trans (below_low hB HB1.out.size)); have HW7 : Hid (w1.heap.size ≤ w7.heap.size) := Lib.hid (Nat.le_trans HWj.out hB.size); clear hBl hB hKp)))
            go_round
            case rel => exact ⟨k + 1, by omega, by go_num, Lib.hid (by rw [HSUC.out, HPW.out]; have h := HBl7.out; rw [HFU.out, ← HX.out] at h; simpa only [List.append_assoc] using h), HB7, HW7⟩
            case measure => simp [intOf]; omega
    · have hke : k = ps.length := by omega
      have HWL : Hid (writeL t s (ps.take k) = writeL t s ps) := Lib.hid (by rw [hke, List.take_length])
      have HBy : Hid (Bytes (writeL t s ps)) := Lib.hid (write_bytes HK.out)
      have HST := Lib.hid (bstring w1.heap.size w1.heap.size _ wo HBr.out (by rw [HWL.out]; exact HBy.out) HW.out)
      rw [HWL.out] at HST
      clear hke
      go_wp2_with (first
        | (go_at_call 35; ((with_reducible refine HST.out.mono ?_); rintro e w3 ⟨rfl, hB⟩; have HB3 := Lib.hid (HB.out.trans (below_low hB HB1.out.size)); clear hB)))
      go_ret2
      exact ⟨rfl, HB3.out⟩
end Go.Proofs.Ytdnehnjcbdkgcaa
