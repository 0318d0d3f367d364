/- The law PagesOne, walked: one root or the other. -/
import Derived.Test.YtlmdghafiadgjaaPgB
import Derived.Test.YtlmdghafiadgjaaPgC1
import Derived.Test.YtlmdghafiadgjaaPgAr
namespace Go.Proofs.Ytlmdghafiadgjaa
set_option linter.unusedVariables false
set_option linter.unusedSimpArgs false
open Go.RowKit Go.Proofs.YtlmdghafiadgjaaW.PrintWords Go.Proofs.YtlmdghafiadgjaaW.PrintLast

theorem scommitV_after (D : DS) (T : Int) (R : List Int) (B : Bool) (xs : List Int) : (scommitV D T R B xs).D.after ≤ D.after := by
  have h1 := (syncV_keeps D).1
  have h2 := fun b => (stoV_keeps (syncV D).2 (nxT T % 2) b 4).1
  have h3 := fun b => (syncV_keeps (storeV (syncV D).2 (nxT T % 2) b).2).1
  unfold scommitV
  split
  · exact Int.le_refl _
  split
  · exact Int.le_refl _
  split
  · exact h1
  split
  · have := h2 (packV 1 (nxT T % 2) (nxT T) xs).1
    unfold storeV
    simp only
    omega
  split
  · have := h2 (packV 1 (nxT T % 2) (nxT T) xs).1
    have := h3 (packV 1 (nxT T % 2) (nxT T) xs).1
    unfold storeV at *
    simp only
    omega
  · have := h2 (packV 1 (nxT T % 2) (nxT T) xs).1
    have := h3 (packV 1 (nxT T % 2) (nxT T) xs).1
    unfold storeV at *
    simp only
    omega
theorem failV_after (D : DS) (a e : Int) (h : D.after ≤ 9223372036854775807) (ha : a ≤ 9223372036854775807) : (failV D a e).2.after ≤ 9223372036854775807 := by
  unfold failV
  split
  · exact ha
  · exact h
theorem failV_sure (D : DS) (a e : Int) : (failV D a e).2.sure = D.sure ∧ (failV D a e).2.pend = D.pend ∧ (failV D a e).2.size = D.size := by
  unfold failV
  split <;> exact ⟨rfl, rfl, rfl⟩
theorem PInv.fail {D : DS} {T : Int} {R : List Int} (h : PInv D T R) (a e : Int) : PInv (failV D a e).2 T R := by
  obtain ⟨h1, h2, h3⟩ := failV_sure D a e
  have ho := h.ok
  exact h.other ⟨by rw [h3]; exact ho.pos, by rw [h3]; exact ho.max, by rw [h1]; exact ho.sure, by rw [h2]; exact ho.pend⟩ h3 (by rw [h2]; exact h.pd) (fun q _ => by rw [h1])
/-- A store that stands as its disk has it. -/
structure OneAt (w0 w : World) (b p : Nat) (D : DS) (T : Int) (R : List Int) : Prop where
  lp : LP w0 w b D p T R false
  inv : PInv D T R
  pend : D.pend = []
  aft : D.after ≤ 9223372036854775807
theorem OneAt.q {w0 w : World} {b p : Nat} {D : DS} {T : Int} {R : List Int} (h : OneAt w0 w b p D T R) : D.after ≤ 9223372036854775807 ∧ D.pend.length ≤ 999998000 := ⟨h.aft, by rw [h.pend]; decide⟩
/-- Fail, Commit, Crash, Open: one or the other. -/
theorem one_after {D : DS} {T : Int} {R xs : List Int} (h : PInv D T R) (hp : D.pend = []) (ha : D.after ≤ 9223372036854775807) (hT : T < 200) (hl : xs.length ≤ 996) (hx : Bytes xs) (f k t : Int) (hf : f ≤ 9223372036854775807) {r : CR} (hr : scommitV (failV D f 7).2 T R false xs = r) :
    ∃ T' R', PInv (crashV r.D k t) T' R' ∧ T' ≤ T + 1 ∧ (R' = xs ∨ (R' = R ∧ r.e ≠ 0)) ∧ R'.length ≤ 996 ∧ (crashV r.D k t).after ≤ 9223372036854775807 := by
  subst hr
  have h1 := h.fail f 7
  have hc := h1.commit hl hx hT
  have haf : (crashV (scommitV (failV D f 7).2 T R false xs).D k t).after ≤ 9223372036854775807 := Int.le_trans (scommitV_after _ _ _ _ _) (failV_after D f 7 ha hf)
  rcases hc.crash h1 hl hx hT k t with ⟨h2, h3, _⟩ | ⟨h3, _⟩
  · exact ⟨T, R, h3, by omega, .inr ⟨rfl, h2⟩, h3.rl, haf⟩
  · exact ⟨T + 1, xs, h3, Int.le_refl _, .inl rfl, hl, haf⟩
set_option maxRecDepth 100000 in
set_option maxHeartbeats 4000000 in
theorem one_great (A0 : Option Addr) (n0 c0 : Nat) (A1 : Option Addr) (n1 c1 : Nat) (A2 : Option Addr) (n2 c2 : Nat) (f k t : Int) (more : Bool) (w : World) (h0 : n0 ≤ 9223372036854775807) (h1 : n1 ≤ 9223372036854775807) (h2 : n2 ≤ 9223372036854775807)
    (h : 12 < n0 ∨ (n0 ≤ 12 ∧ 996 < n1) ∨ (n0 ≤ 12 ∧ n1 ≤ 996 ∧ 996 < n2)) :
    Calls Try.prog 8 #[.slice A0 n0 c0, .slice A1 n1 c1, .slice A2 n2 c2, .int .i64 f, .int .i64 k, .int .i64 t, .bool more] w fun e w' => e = .returned (.bool true) ∧ Below w.heap.size w w' := by
  rcases h with h | ⟨h, h3⟩ | ⟨h, h3, h4⟩
  all_goals
    go_enter Try.func8, Try.ntmps8
    go_wp2_with (first
      | (go_at_call 9; ((with_reducible refine (alive_any _).mono ?_); rintro e3 w3 ⟨rfl, hB⟩; have HB4 := Lib.hid hB; clear hB)))
    go_ret
    exact ⟨rfl, HB4.out⟩
set_option maxRecDepth 100000 in
set_option maxHeartbeats 8000000 in
theorem one_some (A0 : Option Addr) (rs : List BR) (c0 : Nat) (A1 : Option Addr) (l1 : List Int) (c1_ : Nat) (A2 : Option Addr) (l2 : List Int) (c2_ : Nat) (f k t : Int) (more : Bool) (w : World) (hR : RowsAt w A0 rs) (hA : ∀ r ∈ rs, r.At w)
    (hr1 : ReadsInt w .u8 A1 l1.length l1) (hx1 : Bytes l1) (hr2 : ReadsInt w .u8 A2 l2.length l2) (hx2 : Bytes l2) (g0 : rs.length ≤ 12) (g1 : l1.length ≤ 996) (g2 : l2.length ≤ 996) (hf : f ≤ 9223372036854775807) :
    Calls Try.prog 8 #[.slice A0 rs.length c0, .slice A1 l1.length c1_, .slice A2 l2.length c2_, .int .i64 f, .int .i64 k, .int .i64 t, .bool more] w fun e w' => e = .returned (.bool true) ∧ Below w.heap.size w w' := by
  have HN := Lib.hid (ld_new 16 w (by decide) (by decide))
  have HI := Lib.hid (PInv.new (n := 16) (by decide) (by decide))
  have HR := Lib.hid hR
  have HA := Lib.hid hA
  have H1 := Lib.hid hr1
  have X1 := Lib.hid hx1
  have H2 := Lib.hid hr2
  have X2 := Lib.hid hx2
  have q0 : Hid ((newD 16).pend = [] ∧ (newD 16).after = 0 ∧ (newD 16).planned = false) := Lib.hid ⟨rfl, rfl, rfl⟩
  clear hR hA hr1 hx1 hr2 hx2
  generalize newD 16 = D0 at *
  go_enter Try.func8, Try.ntmps8
  go_wp2_with (first
    | (go_at_call 21; ((with_reducible refine HN.out.mono ?_); rintro e w1 ⟨b, rfl, hD⟩; have HO := Lib.hid (ld_open hD HI.out.opens.1 HI.out.opens.2); clear hD))
    | (go_at_call 14; ((with_reducible refine HO.out.mono ?_); rintro e w2 ⟨p, rfl, hS, _, _⟩; have HS := Lib.hid (OneAt.mk hS HI.out q0.out.1 (by rw [q0.out.2.1]; decide)); clear hS)))
  have HPL := Lib.hid q0.out.2.2
  have HW0 : Hid (ReadsInt w .u8 none 0 []) := Lib.hid ⟨rfl, by decide, fun h => absurd h (Nat.lt_irrefl 0)⟩
  go_loopw [19, 20] (fun s19 s20 wr => ∃ (j : Nat) (D : DS) (R : List Int) (Aw : Option Addr) (cw : Nat), j ≤ rs.length ∧ s20 = .int .i64 j ∧ s19 = .slice Aw R.length cw ∧ Hid (ReadsInt w .u8 Aw R.length R) ∧ Hid (OneAt w wr b p D (j : Int) R) ∧ Hid (D.planned = false)) (fun _ s20 _ => rs.length - (intOf s20).toNat)
  case atStart => exact ⟨0, D0, [], none, 0, Nat.zero_le _, rfl, rfl, HW0, HS, HPL⟩
  case round =>
    clear HW0 HS HPL
    obtain ⟨j, D, R, Aw, cw, hj, rfl, rfl, HW, HS, HPL⟩ := hrel
    by_cases hlt : j < rs.length
    · obtain ⟨ad, rfl, hcell, hrow⟩ := HR.out j hlt
      have hck := pw_cell_below HS.out.lp.all hcell
      have HRW := Lib.hid hrow
      have hlb := hrow.rd.2.1
      unfold BR.v at hck
      unfold BR.v at hcell
      have HCL := Lib.hid hcell
      generalize rs[j] = r at *
      obtain ⟨ra, rl, rc⟩ := r
      simp only at hck hlb HCL
      clear hcell hrow
      by_cases hgr : 996 < rl.length
      · go_wp2_with (first
          | (go_at_call 9; ((with_reducible refine (alive_any _).mono ?_); rintro e3 w3 ⟨rfl, hB⟩; have HB4 := Lib.hid (below_then HS.out.lp.all HS.out.lp.all.size hB); clear hB)))
        go_ret
        exact ⟨rfl, HB4.out⟩
      · have hcm := HS.out.inv.commit (xs := rl) (by omega) HRW.out.by_ (by omega)
        have hco := HS.out.inv.commit_ok (xs := rl) (by omega) (by omega) HPL.out
        obtain ⟨k1, k2, k3, k4, k5, k6⟩ := hcm.done hco.1
        have haft := scommitV_after D j R false rl
        have HC := Lib.hid (lp_commit HS.out.lp (Below.refl _ _) ra rl.length rc rl (reads_below8 HRW.out.rd HS.out.lp.all) HRW.out.by_ (fun h0 ad e => .inl (reads_lt HRW.out.rd h0 ad e)) HS.out.q rfl)
        have hq0 := HS.out.aft
        have HP2 := Lib.hid hco.2
        have he0 := hco.1
        have HK := Lib.hid (And.intro k4 k5)
        clear hcm hco k4 k5 k6
        generalize scommitV D (j : Int) R false rl = cr at *
        obtain ⟨ce, cD, cT, cR, cB⟩ := cr
        simp only at k1 k2 k3 he0 haft
        obtain rfl := k1; obtain rfl := k2; obtain rfl := k3; obtain rfl := he0
        have HQ : Hid (cD.after ≤ 9223372036854775807) := Lib.hid (by omega)
        clear haft hq0
        go_wp2_with (first
          | (go_at_call 17; ((with_reducible refine HC.out.mono ?_); rintro e w4 ⟨rfl, hS⟩; have HS4 := Lib.hid (OneAt.mk hS HK.out.1 HK.out.2 HQ.out); have hck4 := pw_cell_below hS.all HCL.out; clear hS)))
        go_roundw
        case rel => exact ⟨j + 1, cD, _, ra, rc, by omega, by go_num, rfl, Lib.hid HRW.out.rd, Lib.hid (by rw [show ((j + 1 : Nat) : Int) = (j : Int) + 1 by omega]; exact HS4.out), HP2⟩
        case measure => simp [intOf]; omega
    · obtain rfl : j = rs.length := by omega
      have hfd := failV_sure D f 7
      obtain ⟨cr, hcr⟩ : ∃ cr, scommitV (failV D f 7).2 (rs.length : Int) R false l1 = cr := ⟨_, rfl⟩
      obtain ⟨T1, R1, hi1, ht1, hc1, hl1, ha1⟩ := one_after HS.out.inv HS.out.pend HS.out.aft (by omega) g1 X1.out f k t hf hcr
      have OP1 := Lib.hid hi1.opens
      have Q1 : Hid ((failV D f 7).2.after ≤ 9223372036854775807 ∧ (failV D f 7).2.pend.length ≤ 999998000) := Lib.hid ⟨failV_after D f 7 HS.out.aft hf, by rw [hfd.2.1, HS.out.pend]; decide⟩
      have HFA := Lib.hid (lp_fail HS.out.lp f 7)
      have HCR := Lib.hid hcr
      have hp1 : (crashV cr.D k t).pend = [] := rfl
      obtain ⟨cr2, hcr2⟩ : ∃ cr2, scommitV (failV (crashV cr.D k t) f 7).2 T1 R1 false l2 = cr2 := ⟨_, rfl⟩
      obtain ⟨T2, R2, hi2, ht2, hc2, hl2, ha2⟩ := one_after hi1 hp1 ha1 (by omega) g2 X2.out f t k hf hcr2
      have hfd2 := failV_sure (crashV cr.D k t) f 7
      have OP2 := Lib.hid hi2.opens
      have Q2 : Hid ((failV (crashV cr.D k t) f 7).2.after ≤ 9223372036854775807 ∧ (failV (crashV cr.D k t) f 7).2.pend.length ≤ 999998000) := Lib.hid ⟨failV_after _ f 7 ha1 hf, by rw [hfd2.2.1, hp1]; decide⟩
      have HCR2 := Lib.hid hcr2
      have HL1 : Hid (R1.length ≤ 1200 ∧ R2.length ≤ 1200) := Lib.hid ⟨by omega, by omega⟩
      have c1 : (((strOfNums R1).toList == (strOfNums l1).toList) = true) ∨ (((strOfNums R1).toList == (strOfNums l1).toList) = false ∧ ((strOfNums R1).toList == (strOfNums R).toList) = true ∧ (cr.e == 0) = false) := by
        rcases hc1 with rfl | ⟨rfl, hne⟩
        · exact .inl (by simp)
        · rcases hb : ((strOfNums R1).toList == (strOfNums l1).toList) with _ | _
          · exact .inr ⟨rfl, by simp, beq_eq_false_iff_ne.mpr hne⟩
          · exact .inl rfl
      have c2 : (((strOfNums R2).toList == (strOfNums l2).toList) = true) ∨ (((strOfNums R2).toList == (strOfNums l2).toList) = false ∧ ((strOfNums R2).toList == (strOfNums R1).toList) = true ∧ (cr2.e != 0) = true) := by
        rcases hc2 with rfl | ⟨rfl, hne⟩
        · exact .inl (by simp)
        · rcases hb : ((strOfNums R2).toList == (strOfNums l2).toList) with _ | _
          · exact .inr ⟨rfl, by simp, bne_iff_ne.mpr hne⟩
          · exact .inl rfl
      clear hcr hi1 ht1 hc1 hl1 ha1 hp1 hcr2 hi2 ht2 hc2 hl2 ha2 hfd hfd2
      cases more with
      | false =>
        clear c2 HCR2 OP2 Q2
        rcases c1 with c1 | ⟨c1, c3, c4⟩
        all_goals
          go_wp2_with (first
            | (go_at_call 26; ((with_reducible refine HFA.out.mono ?_); rintro e w4 ⟨rfl, hS⟩; have HCa := Lib.hid (lp_commit hS (Below.refl _ _) A1 _ c1_ l1 (reads_below8 H1.out hS.all) X1.out (fun h0 ad e => .inl (reads_lt H1.out h0 ad e)) Q1.out HCR.out); clear hS))
            | (go_at_call 17; ((with_reducible refine HCa.out.mono ?_); rintro e w5 ⟨rfl, hS⟩; have HXa := Lib.hid (ld_crash hS.ld k t); clear hS))
            | (go_at_call 28; ((with_reducible refine HXa.out.mono ?_); rintro e w6 ⟨rfl, hD⟩; have HPa := Lib.hid (ld_open hD OP1.out.1 OP1.out.2); clear hD))
            | (go_at_call 14; ((with_reducible refine HPa.out.mono ?_); rintro e w7 ⟨pa, rfl, hS, _, _⟩; have HSa := Lib.hid hS; have HTa := Lib.hid (lp_root hS HL1.out.1); clear hS))
            | (go_at_call 19; ((with_reducible refine HTa.out.mono ?_); rintro e w8 ⟨va, rfl, hO, hB⟩; obtain ⟨Aa_, ca_, rfl, _, hx⟩ := hO.reads; have HS8 := Lib.hid (HSa.out.below hB); have kc1 := string_of_reads (P := Try.prog) (c := ca_) Try.underlying23 Try.underlying5 Try.underlying9 hx; have kc2 := string_of_reads (P := Try.prog) (c := c1_) Try.underlying23 Try.underlying5 Try.underlying9 (reads_below8 H1.out HS8.out.all); have kc3 := string_of_reads (P := Try.prog) (c := cw) Try.underlying23 Try.underlying5 Try.underlying9 (reads_below8 HW.out HS8.out.all); have HFB := Lib.hid (lp_fail HS8.out f 7); clear hO hB hx))
            | (go_at_call 9; ((with_reducible refine (alive_any _).mono ?_); rintro e3 w3 ⟨rfl, hB⟩; have HB4 := Lib.hid (below_then HS8.out.all HS8.out.all.size hB); clear hB)))
          go_ret
          exact ⟨rfl, HB4.out⟩
      | true =>
        rcases c1 with c1 | ⟨c1, c3, c4⟩
        all_goals
          rcases c2 with c2 | ⟨c2, c5, c6⟩
          all_goals
            go_wp2_with (first
              | (go_at_call 26; ((with_reducible refine HFA.out.mono ?_); rintro e w4 ⟨rfl, hS⟩; have HCa := Lib.hid (lp_commit hS (Below.refl _ _) A1 _ c1_ l1 (reads_below8 H1.out hS.all) X1.out (fun h0 ad e => .inl (reads_lt H1.out h0 ad e)) Q1.out HCR.out); clear hS))
              | (go_at_call 17; ((with_reducible refine HCa.out.mono ?_); rintro e w5 ⟨rfl, hS⟩; have HXa := Lib.hid (ld_crash hS.ld k t); clear hS))
              | (go_at_call 28; ((with_reducible refine HXa.out.mono ?_); rintro e w6 ⟨rfl, hD⟩; have HPa := Lib.hid (ld_open hD OP1.out.1 OP1.out.2); clear hD))
              | (go_at_call 14; ((with_reducible refine HPa.out.mono ?_); rintro e w7 ⟨pa, rfl, hS, _, _⟩; have HSa := Lib.hid hS; have HTa := Lib.hid (lp_root hS HL1.out.1); clear hS))
              | (go_at_call 19; ((with_reducible refine HTa.out.mono ?_); rintro e w8 ⟨va, rfl, hO, hB⟩; obtain ⟨Aa_, ca_, rfl, _, hx⟩ := hO.reads; have HS8 := Lib.hid (HSa.out.below hB); have kc1 := string_of_reads (P := Try.prog) (c := ca_) Try.underlying23 Try.underlying5 Try.underlying9 hx; have kc2 := string_of_reads (P := Try.prog) (c := c1_) Try.underlying23 Try.underlying5 Try.underlying9 (reads_below8 H1.out HS8.out.all); have kc3 := string_of_reads (P := Try.prog) (c := cw) Try.underlying23 Try.underlying5 Try.underlying9 (reads_below8 HW.out HS8.out.all); have HFB := Lib.hid (lp_fail HS8.out f 7); clear hO hB hx))
              | (go_at_call 26; ((with_reducible refine HFB.out.mono ?_); rintro e w9 ⟨rfl, hS⟩; have HCb := Lib.hid (lp_commit hS (Below.refl _ _) A2 _ c2_ l2 (reads_below8 H2.out hS.all) X2.out (fun h0 ad e => .inl (reads_lt H2.out h0 ad e)) Q2.out HCR2.out); clear hS))
              | (go_at_call 17; ((with_reducible refine HCb.out.mono ?_); rintro e w10 ⟨rfl, hS⟩; have HXb := Lib.hid (ld_crash hS.ld t k); clear hS))
              | (go_at_call 28; ((with_reducible refine HXb.out.mono ?_); rintro e w11 ⟨rfl, hD⟩; have HPb := Lib.hid (ld_open hD OP2.out.1 OP2.out.2); clear hD))
              | (go_at_call 14; ((with_reducible refine HPb.out.mono ?_); rintro e w12 ⟨pb, rfl, hS, _, _⟩; have HSb := Lib.hid hS; have HTb := Lib.hid (lp_root hS HL1.out.2); clear hS))
              | (go_at_call 19; ((with_reducible refine HTb.out.mono ?_); rintro e w13 ⟨vb, rfl, hO, hB⟩; obtain ⟨Ab_, cb_, rfl, _, hx⟩ := hO.reads; have HS12 := Lib.hid (HSb.out.below hB); have kc5 := string_of_reads (P := Try.prog) (c := cb_) Try.underlying23 Try.underlying5 Try.underlying9 hx; clear hO hB hx))
              | (go_at_call 9; ((with_reducible refine (alive_any _).mono ?_); rintro e3 w3 ⟨rfl, hB⟩; have HB4 := Lib.hid (below_then HS12.out.all HS12.out.all.size hB); have kc4 := string_of_reads (P := Try.prog) (c := c2_) Try.underlying23 Try.underlying5 Try.underlying9 (reads_below8 H2.out HB4.out); clear hB)))
            go_ret
            exact ⟨rfl, HB4.out⟩
theorem wf_i64' {n : Int} (h : (Lit.int .i64 n).wf = true) : n ≤ 9223372036854775807 := wf_i64 h
theorem one_law (A0 : Option Addr) (rs : List BR) (c0 : Nat) (A1 : Option Addr) (l1 : List Int) (c1 : Nat) (A2 : Option Addr) (l2 : List Int) (c2 : Nat) (f k t : Int) (more : Bool) (w : World) (hR : RowsAt w A0 rs) (hA : ∀ r ∈ rs, r.At w) (hm0 : rs.length ≤ 9223372036854775807)
    (hr1 : ReadsInt w .u8 A1 l1.length l1) (wl1 : ∀ n ∈ l1, (Lit.int .u8 n).wf = true) (_ : l1.length ≤ c1) (_ : l1.length * 1 ≤ 140737488351232) (hr2 : ReadsInt w .u8 A2 l2.length l2) (wl2 : ∀ n ∈ l2, (Lit.int .u8 n).wf = true) (_ : l2.length ≤ c2) (_ : l2.length * 1 ≤ 140737488351232) (hf : (Lit.int .i64 f).wf = true) (_ : (Lit.int .i64 k).wf = true) (_ : (Lit.int .i64 t).wf = true) :
    Calls Try.prog 8 #[.slice A0 rs.length c0, .slice A1 l1.length c1, .slice A2 l2.length c2, .int .i64 f, .int .i64 k, .int .i64 t, .bool more] w fun e w' => e = .returned (.bool true) ∧ Below w.heap.size w w' := by
  by_cases h : 12 < rs.length ∨ (rs.length ≤ 12 ∧ 996 < l1.length) ∨ (rs.length ≤ 12 ∧ l1.length ≤ 996 ∧ 996 < l2.length)
  · exact one_great A0 _ c0 A1 _ c1 A2 _ c2 f k t more w hm0 hr1.2.1 hr2.2.1 h
  · exact one_some A0 rs c0 A1 l1 c1 A2 l2 c2 f k t more w hR hA hr1 (fun n hn => wf_byte (wl1 n hn)) hr2 (fun n hn => wf_byte (wl2 n hn)) (by omega) (by omega) (by omega) (wf_i64 hf)
end Go.Proofs.Ytlmdghafiadgjaa
