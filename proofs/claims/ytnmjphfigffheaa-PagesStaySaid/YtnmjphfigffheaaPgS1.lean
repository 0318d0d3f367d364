/- The law PagesStay, walked: pages that were committed stay. -/
import Derived.Test.YtnmjphfigffheaaPgB
import Derived.Test.YtnmjphfigffheaaPgA2
import Derived.Test.YtnmjphfigffheaaPgS0
import Derived.Test.YtnmjphfigffheaaPgAr
namespace Go.Proofs.Ytnmjphfigffheaa
set_option maxRecDepth 100000
set_option linter.unusedVariables false
set_option linter.unusedSimpArgs false
open Go.RowKit Go.Proofs.YtnmjphfigffheaaW.PrintWords Go.Proofs.YtnmjphfigffheaaW.PrintLast

set_option maxRecDepth 100000 in
set_option maxHeartbeats 4000000 in
theorem stay_great (A0 : Option Addr) (n0 c0 : Nat) (A1 : Option Addr) (n1 c1 : Nat) (k t : Int) (w : World) (h0 : n0 ≤ 9223372036854775807) (h : 996 < n0) :
    Calls Try.prog 3 #[.slice A0 n0 c0, .slice A1 n1 c1, .int .i64 k, .int .i64 t] w fun e w' => e = .returned (.bool true) ∧ Below w.heap.size w w' := by
  go_enter Try.func3, Try.ntmps3
  go_wp2_with (first
    | (go_at_call 8; ((with_reducible refine (alive_any _).mono ?_); rintro e3 w3 ⟨rfl, hB⟩; have HB4 := Lib.hid hB; clear hB)))
  go_ret
  exact ⟨rfl, HB4.out⟩
def opZ : Array Value := #[.int .i64 0, .int .i64 0, .int .i64 0, .int .i64 0, .int .u8 0, .slice none 0 0]
theorem infoOp : (Try.prog.info? 35).map (·.size) = some 6 := by kernel_rfl
theorem po_all (o : PO) : o.cells.all (·.oneCell') = true := by
  obtain ⟨a, b, c, d, e, ⟨x, y, z⟩⟩ := o
  simp [PO.cells, BR.v, Value.oneCell']
def ones6 (cs : Array Value) : Bool := decide (cs.size = 6) && cs.all (·.oneCell')
theorem store_po (d : Option Tmp) (x y : Operand) (ty' : TypeId) (pos : String) (af : Array Edge) (gd : Option (Nat × Bool)) (ev : Operand → Value) (W0 : World) (c : Array Value) :
    (execOp ev ⟨d, .store 35 x y, ty', pos, af, gd⟩).run Try.prog (W0.alloc (.cells c 35)) = match ev x, ev y with
    | .pointer (some ⟨g, 0, none⟩), .agg cs => if g = W0.heap.size ∧ c.size = 6 ∧ ones6 cs = true then .ok .skip (W0.alloc (.cells cs 35)) else loadElse ev ⟨d, .store 35 x y, ty', pos, af, gd⟩ (W0.alloc (.cells c 35))
    | _, _ => loadElse ev ⟨d, .store 35 x y, ty', pos, af, gd⟩ (W0.alloc (.cells c 35)) := by
  split
  · rename_i g cs hx hy
    split
    · rename_i h
      obtain ⟨rfl, h1, h4⟩ := h
      obtain ⟨h2, h3⟩ : cs.size = 6 ∧ cs.all (·.oneCell') = true := by simpa [ones6] using h4
      exact store_new_run (P := Try.prog) W0 c cs 35 ev d ty' x y pos af gd (infoOp.trans (congrArg some h2.symm)) (h1.trans h2.symm) h3 hx hy
    · rfl
  · rfl
attribute [local go_sem ↓] store_po
set_option maxRecDepth 100000 in
set_option maxHeartbeats 8000000 in
theorem stay_some (A0 : Option Addr) (l0 : List Int) (c0 : Nat) (A1 : Option Addr) (ops : List PO) (c1 : Nat) (k t : Int) (w : World) (hr0 : ReadsInt w .u8 A0 l0.length l0) (hx0 : Bytes l0) (g0 : l0.length ≤ 996) (hO : PopsAt w A1 ops) (hok : ∀ o ∈ ops, o.Ok w) (hlen : ops.length ≤ 9223372036854775807) :
    Calls Try.prog 3 #[.slice A0 l0.length c0, .slice A1 ops.length c1, .int .i64 k, .int .i64 t] w fun e w' => e = .returned (.bool true) ∧ Below w.heap.size w w' := by
  have HN := Lib.hid (ld_new 32 w (by decide) (by decide))
  have HI := Lib.hid (PInv.new (n := 32) (by decide) (by decide)).opens
  obtain ⟨r, hr⟩ : ∃ r, swriteV (newD 32) 0 false 5 9 l0 = r := ⟨_, rfl⟩
  obtain ⟨s, hs⟩ : ∃ s, scommitV r.2.1 0 [] r.2.2 l0 = s := ⟨_, rfl⟩
  obtain ⟨f1, f2, f3, f4, f5, hst⟩ := stay_first g0 hx0 hr hs
  have HRR := Lib.hid hr
  have HSS := Lib.hid hs
  have HST := Lib.hid hst
  have HR0 := Lib.hid hr0
  have HX0 := Lib.hid hx0
  have HO := Lib.hid hO
  have HOK := Lib.hid hok
  have HQ1 : Hid (r.2.1.after ≤ 9223372036854775807 ∧ r.2.1.pend.length ≤ 999998000) := Lib.hid ⟨f3, f4⟩
  have HQ0 : Hid ((newD 32).after ≤ 9223372036854775807 ∧ (newD 32).pend.length ≤ 999998000) := Lib.hid (by decide)
  clear hr hs hst hr0 hx0 hO hok f3 f4
  obtain ⟨r1, rD, rB⟩ := r
  obtain ⟨se, sD, sT, sR, sB⟩ := s
  simp only at f1 f2 f5
  subst f1; subst f2; subst f5
  generalize newD 32 = D0 at *
  go_enter Try.func3, Try.ntmps3
  go_wp2_with (first
    | (go_at_call 9; ((with_reducible refine HN.out.mono ?_); rintro e w1 ⟨b, rfl, hD⟩; have HO1 := Lib.hid (ld_open hD HI.out.1 HI.out.2); clear hD))
    | (go_at_call 10; ((with_reducible refine HO1.out.mono ?_); rintro e w2 ⟨p, rfl, hS, _, _⟩; have HW2 := Lib.hid (lp_write hS 5 9 A0 _ c0 l0 (reads_below8 HR0.out hS.all) HX0.out (by decide) HQ0.out HRR.out); clear hS))
    | (go_at_call 11; ((with_reducible refine HW2.out.mono ?_); rintro e w3 ⟨rfl, hS⟩; have HC3 := Lib.hid (lp_commit hS (Below.refl _ _) A0 _ c0 l0 (reads_below8 HR0.out hS.all) HX0.out (fun h0 ad e => .inl (reads_lt HR0.out h0 ad e)) HQ1.out HSS.out); clear hS))
    | (go_at_call 12; ((with_reducible refine HC3.out.mono ?_); rintro e w4 ⟨rfl, hS⟩; have HS := Lib.hid hS; clear hS)))
  go_loopw [13] (fun s13 wr => ∃ (j : Nat) (D : DS) (T : Int) (R : List Int) (B : Bool), j ≤ ops.length ∧ j ≤ 30 ∧ s13 = .int .i64 j ∧ Hid (LP w wr b D p T R B) ∧ Hid (St5 D T R B l0 (3 * j))) (fun s13 _ => 30 - (intOf s13).toNat)
  case atStart => exact ⟨0, sD, sT, sR, sB, Nat.zero_le _, Nat.zero_le _, rfl, HS, HST⟩
  case round =>
    clear HS HST
    obtain ⟨j, D, T, R, B, hj, hj30, rfl, HS, HST⟩ := hrel
    by_cases hlt : j < ops.length ∧ j < 30
    · obtain ⟨hlt1, hlt2⟩ := hlt
      have hj0 : (0 : Int) ≤ (j : Int) := Int.natCast_nonneg _
      have hj1 : (j : Int) < (ops.length : Int) := by omega
      have hj2 : (j : Int) < 30 := by omega
      obtain ⟨ob, oo, rfl, hob, hr⟩ : ∃ b o, A1 = some ⟨b, o, none⟩ ∧ b < w.heap.size ∧ ∀ j (h : j < ops.length), w.rangeAt b (o + j * 6) ops[j].cells.toList := by
        rcases HO.out with h9 | h9
        · subst h9; exact absurd hlt1 (Nat.not_lt_zero _)
        · exact h9
      have hr1 := hr j hlt1
      have HOK1 := Lib.hid (HOK.out ops[j] (List.getElem_mem hlt1))
      have HRG : Hid (wr.rangeAt ob (oo + j * 6) ops[j].cells.toList) := Lib.hid (fun i v hv => pw_cell_below HS.out.all (hr1 i v hv))
      clear hr hr1 hob
      generalize ops[j] = o at *
      obtain ⟨ok, oa, on, ot, os, ⟨ra, rl, rc⟩⟩ := o
      have hlb := HOK1.out.row.rd.2.1
      simp only at hlb
      have hsb := HOK1.out.sort
      simp only at hsb
      have hps : (PO.cells ⟨ok, oa, on, ot, os, ⟨ra, rl, rc⟩⟩).size = 6 := rfl
      have hpa : ones6 (PO.cells ⟨ok, oa, on, ot, os, ⟨ra, rl, rc⟩⟩) = true := by unfold ones6; rw [po_all]; rfl
      have hcel : ∀ j v, (PO.cells ⟨ok, oa, on, ot, os, ⟨ra, rl, rc⟩⟩)[j]? = some v → (wr.alloc (.cells (PO.cells ⟨ok, oa, on, ot, os, ⟨ra, rl, rc⟩⟩) 35)).cell? ⟨wr.heap.size, j, none⟩ = some v := fun j v hv => (blk_cell (heap_alloc_last wr _) j).trans hv
      have l0' := hcel 0 (.int .i64 ok) rfl
      have l1' := hcel 1 (.int .i64 oa) rfl
      have l2' := hcel 2 (.int .i64 on) rfl
      have l4' := hcel 4 (.int .u8 os) rfl
      have l5' := hcel 5 (.slice ra rl.length rc) rfl
      unfold BR.v at l5'
      (try simp only at l5')
      have HBN := Lib.hid (fun (cs : Array Value) => below_first (w := wr) (.cells cs 35))
      have HCB : Hid (∀ W, Keeps wr (wr.alloc (.cells (PO.cells ⟨ok, oa, on, ot, os, ⟨ra, rl, rc⟩⟩) 35)) W → W.cell? ⟨wr.heap.size, 0, none⟩ = some (.int .i64 ok)) := Lib.hid (fun W hK => (blk_cell (hK.cell (Nat.le_refl _) (heap_alloc_last wr _)) 0).trans (rfl : (PO.cells ⟨ok, oa, on, ot, os, ⟨ra, rl, rc⟩⟩)[0]? = some (.int .i64 ok)))
      clear hcel
      generalize (PO.cells ⟨ok, oa, on, ot, os, ⟨ra, rl, rc⟩⟩) = cs at *
      have hq : D.after ≤ 9223372036854775807 ∧ D.pend.length ≤ 999998000 := ⟨HST.out.aft, by have := HST.out.pend; omega⟩
      by_cases hgr : 1200 < rl.length
      · go_wp2_with (first
          | ((with_reducible refine at_load_mid (x := .tmp 63) (d := some 64) ob (oo + j * 6) cs.toList _ HRG.out Try.underlying35 (by rw [Array.length_toList, hps]; kernel_rfl) rfl ?_ ?_); rfl)
          | (go_at_call 8; ((with_reducible refine (alive_any _).mono ?_); rintro e3 w3 ⟨rfl, hB⟩; have HB4 := Lib.hid (below_then (HS.out.below (HBN.out cs)).all (HS.out.below (HBN.out cs)).all.size hB); clear hB)))
        go_ret
        exact ⟨rfl, HB4.out⟩
      by_cases k0 : ok = 0
      · subst k0
        by_cases k5 : oa = 5
        · subst k5
          go_wp2_with (first
            | ((with_reducible refine at_load_mid (x := .tmp 63) (d := some 64) ob (oo + j * 6) cs.toList _ HRG.out Try.underlying35 (by rw [Array.length_toList, hps]; kernel_rfl) rfl ?_ ?_); rfl))
          go_roundw
          case rel => exact ⟨j + 1, D, T, R, B, by omega, by omega, by go_num, Lib.hid (HS.out.below (HBN.out cs)), Lib.hid (by have h := HST.out.more.more.more; rw [show 3 * j + 1 + 1 + 1 = 3 * (j + 1) by omega] at h; exact h)⟩
          case measure => simp [intOf]; omega
        · have k5b : (oa != 5) = true := bne_iff_ne.mpr k5
          have HW := Lib.hid (lp_write2 HS.out (HBN.out cs) oa os ra _ rc rl (reads_below8 HOK1.out.row.rd (HS.out.below (HBN.out cs)).all) HOK1.out.row.by_ hsb hq rfl)
          have HN5 := Lib.hid (HST.out.write oa os rl k5 hsb HOK1.out.row.by_ (by omega))
          go_wp2_with (first
            | ((with_reducible refine at_load_mid (x := .tmp 63) (d := some 64) ob (oo + j * 6) cs.toList _ HRG.out Try.underlying35 (by rw [Array.length_toList, hps]; kernel_rfl) rfl ?_ ?_); rfl)
            | (go_at_call 11; ((with_reducible refine HW.out.mono ?_); rintro e w4 ⟨rfl, hS, hK⟩; have HS4 := Lib.hid hS; have k4 := HCB.out w4 hK; clear hS hK)))
          go_roundw
          case rel => exact ⟨j + 1, _, T, R, _, by omega, by omega, by go_num, HS4, Lib.hid (by have h := HN5.out.more.more; rw [show 3 * j + 1 + 1 + 1 = 3 * (j + 1) by omega] at h; exact h)⟩
          case measure => simp [intOf]; omega
      by_cases k1 : ok = 1
      · subst k1
        have HC := Lib.hid (lp_commit2 HS.out (HBN.out cs) ra _ rc rl (reads_below8 HOK1.out.row.rd (HS.out.below (HBN.out cs)).all) HOK1.out.row.by_ (fun h0 ad e => .inl (reads_lt HOK1.out.row.rd h0 ad e)) hq rfl)
        have HN5 := Lib.hid (HST.out.commit rl HOK1.out.row.by_ (by omega) rfl)
        go_wp2_with (first
          | ((with_reducible refine at_load_mid (x := .tmp 63) (d := some 64) ob (oo + j * 6) cs.toList _ HRG.out Try.underlying35 (by rw [Array.length_toList, hps]; kernel_rfl) rfl ?_ ?_); rfl)
          | (go_at_call 12; ((with_reducible refine HC.out.mono ?_); rintro e w4 ⟨rfl, hS, hK⟩; have HS4 := Lib.hid hS; have k4 := HCB.out w4 hK; clear hS hK)))
        go_roundw
        case rel => exact ⟨j + 1, _, _, _, _, by omega, by omega, by go_num, HS4, Lib.hid (by have h := HN5.out.more.more; rw [show 3 * j + 1 + 1 + 1 = 3 * (j + 1) by omega] at h; exact h)⟩
        case measure => simp [intOf]; omega
      have k0b : (ok == 0) = false := beq_eq_false_iff_ne.mpr k0
      have k1b : (ok == 1) = false := beq_eq_false_iff_ne.mpr k1
      by_cases k2 : ok = 2
      · subst k2
        have HF := Lib.hid (lp_fail2 HS.out (HBN.out cs) on 160)
        have HN5 := Lib.hid (HST.out.fail on 160 HOK1.out.n)
        go_wp2_with (first
          | ((with_reducible refine at_load_mid (x := .tmp 63) (d := some 64) ob (oo + j * 6) cs.toList _ HRG.out Try.underlying35 (by rw [Array.length_toList, hps]; kernel_rfl) rfl ?_ ?_); rfl)
          | (go_at_call 13; ((with_reducible refine HF.out.mono ?_); rintro e w4 ⟨rfl, hS, hK⟩; have HS4 := Lib.hid hS; have k4 := HCB.out w4 hK; clear hS hK)))
        go_roundw
        case rel => exact ⟨j + 1, _, T, R, _, by omega, by omega, by go_num, HS4, Lib.hid (by have h := HN5.out.more.more; rw [show 3 * j + 1 + 1 + 1 = 3 * (j + 1) by omega] at h; exact h)⟩
        case measure => simp [intOf]; omega
      have k2b : (ok == 2) = false := beq_eq_false_iff_ne.mpr k2
      go_wp2_with (first
        | ((with_reducible refine at_load_mid (x := .tmp 63) (d := some 64) ob (oo + j * 6) cs.toList _ HRG.out Try.underlying35 (by rw [Array.length_toList, hps]; kernel_rfl) rfl ?_ ?_); rfl))
      go_roundw
      case rel => exact ⟨j + 1, D, T, R, B, by omega, by omega, by go_num, Lib.hid (HS.out.below (HBN.out cs)), Lib.hid (by have h := HST.out.more.more.more; rw [show 3 * j + 1 + 1 + 1 = 3 * (j + 1) by omega] at h; exact h)⟩
      case measure => simp [intOf]; omega
    · have hsf := HST.out.safe.read HST.out.size g0 HX0.out k t
      have HXC := Lib.hid (ld_crash HS.out.ld k t)
      have HSF := Lib.hid hsf
      have hss : ((strOfNums l0).toList == (strOfNums l0).toList) = true := by simp
      clear hsf
      generalize crashV D k t = D2 at *
      obtain ⟨T2, R2, hTR⟩ : ∃ T2 R2, openT D2 = (T2, R2) := ⟨_, _, rfl⟩
      have HTR := Lib.hid hTR
      clear hTR
      have hcond : (j : Int) < (ops.length : Int) → ¬ (j : Int) < 30 := fun h9 h8 => hlt ⟨by omega, by omega⟩
      have fin : True := trivial
      by_cases h9 : (j : Int) < (ops.length : Int)
      all_goals
        (try have h8 := hcond (by assumption))
        clear hcond
        go_wp2_with (first
          | (go_at_call 14; ((with_reducible refine HXC.out.mono ?_); rintro e w5 ⟨rfl, hD⟩; have HP := Lib.hid (ld_open hD HSF.out.1 HTR.out); clear hD))
          | (go_at_call 10; ((with_reducible refine HP.out.mono ?_); rintro e w6 ⟨p2, rfl, hS, _, _⟩; have HS6 := Lib.hid hS; have HR6 := Lib.hid (lp_read hS 5 HSF.out.2); clear hS))
          | (go_at_call 15; ((with_reducible refine HR6.out.mono ?_); rintro e w7 ⟨v7, rfl, hO7, hB7⟩; obtain ⟨A7, c7, rfl, _, hx7⟩ := hO7.reads; have HX7 := Lib.hid hx7; have HS7 := Lib.hid (HS6.out.below hB7); clear hO7 hB7 hx7))
          | (go_at_call 8; ((with_reducible refine (alive_any _).mono ?_); rintro e3 w8 ⟨rfl, hB⟩; have HB8 := Lib.hid (below_then HS7.out.all HS7.out.all.size hB); have kc1 := string_of_reads (P := Try.prog) (c := c7) Try.underlying22 Try.underlying5 Try.underlying9 (reads_below8 HX7.out hB); have kc2 := string_of_reads (P := Try.prog) (c := c0) Try.underlying22 Try.underlying5 Try.underlying9 (reads_below8 HR0.out HB8.out); clear hB)))
        go_ret
        exact ⟨rfl, HB8.out⟩
theorem stay_law (A0 : Option Addr) (l0 : List Int) (c0 : Nat) (A1 : Option Addr) (ops : List PO) (c1 : Nat) (k t : Int) (w : World) (hr0 : ReadsInt w .u8 A0 l0.length l0) (wl0 : ∀ n ∈ l0, (Lit.int .u8 n).wf = true) (_ : l0.length ≤ c0) (_ : l0.length * 1 ≤ 140737488351232) (hO : PopsAt w A1 ops) (hok : ∀ o ∈ ops, o.Ok w) (hlen : ops.length ≤ 9223372036854775807) (_ : (Lit.int .i64 k).wf = true) (_ : (Lit.int .i64 t).wf = true) :
    Calls Try.prog 3 #[.slice A0 l0.length c0, .slice A1 ops.length c1, .int .i64 k, .int .i64 t] w fun e w' => e = .returned (.bool true) ∧ Below w.heap.size w w' := by
  by_cases h : 996 < l0.length
  · exact stay_great A0 _ c0 A1 _ c1 k t w hr0.2.1 h
  · exact stay_some A0 l0 c0 A1 ops c1 k t w hr0 (fun n hn => wf_byte (wl0 n hn)) (by omega) hO hok hlen
end Go.Proofs.Ytnmjphfigffheaa
