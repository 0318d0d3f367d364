/- The law PagesLives, walked: a store that can be opened. -/
import Derived.Test.YtlmdghafiadgjaaPgL1
namespace Go.Proofs.Ytlmdghafiadgjaa
set_option maxRecDepth 100000
set_option linter.unusedVariables false
set_option linter.unusedSimpArgs false
open Go.RowKit Go.Proofs.YtlmdghafiadgjaaW.PrintWords Go.Proofs.YtlmdghafiadgjaaW.PrintLast

attribute [local go_sem ↓] store_po
set_option maxHeartbeats 16000000 in
theorem lives29_open (n : Int) (A : Option Addr) (ops : List PO) (c : Nat) (w : World) (h1 : 1 ≤ n) (h2 : n ≤ 200) (hO : PopsAt w A ops) (hok : ∀ o ∈ ops, o.Ok w) (hlen : ops.length ≤ 9223372036854775807) (hoe : openE (newD n) = 0) :
    Calls Try.prog 7 #[.int .i64 n, .slice A ops.length c] w fun e w' => e = .returned (.bool true) ∧ Below w.heap.size w w' := by
  have hn200 : ¬ 200 < n := by omega
  have HN := Lib.hid (new_yes n w h1 (by omega))
  have HRN := Lib.hid (fun W => rnew_yes n W h1 (by omega))
  have HO := Lib.hid hO
  have HOK := Lib.hid hok
  have HM0 := Lib.hid (RM.new n)
  have HSZ0 : Hid ((newD n).size = n) := Lib.hid rfl
  clear hO hok
  have HOE := Lib.hid hoe
  have hb1 : ((0 : Int) == 0) = true := rfl
  obtain ⟨s0, hs0⟩ : ∃ s0 : SV, openT (newD n) = (s0.T, s0.R) ∧ s0.B = false := ⟨⟨(openT (newD n)).1, (openT (newD n)).2, false⟩, rfl, rfl⟩
  have HS0 := Lib.hid hs0
  clear hs0 hoe
  generalize newD n = D0 at *
  generalize newR n = R0 at *
  go_enter Try.func7, Try.ntmps7
  go_wp2_with (first
    | (go_at_call 21; ((with_reducible refine HN.out.mono ?_); rintro e w1 ⟨b, rfl, hD, hB⟩; have HD1 := Lib.hid hD; have HB1 := Lib.hid hB; clear hD hB))
    | (go_at_call 22; ((with_reducible refine (HRN.out _).mono ?_); rintro e w2 ⟨rfl, hD, hB⟩; have HD2 := Lib.hid (PDx.new HD1.out HB1.out hD hB); clear hD hB))
    | (go_at_call 14; ((with_reducible refine (open_any b D0 _ w2 HD2.out.d).mono ?_); rintro e w3 ⟨v3, rfl, hB, hy, _⟩; obtain ⟨p, rfl, hp, hs, hn⟩ := hy HOE.out; have HB3 := Lib.hid hB; have HPP := Lib.hid (And.intro hp (And.intro hs hn)); clear hB hy hp hs hn))
    | (go_at_call 23; ((with_reducible refine (ropen_any _ D0 R0 _ w3 (HD2.out.below HB3.out).r HM0.out.rel HD2.out.d.ok).mono ?_); rintro e w4 ⟨v4, rfl, hB, hy, _⟩; obtain ⟨y, rfl, hp, hs, hn⟩ := hy HOE.out; have HPL4 := Lib.hid (opened_at HD2.out HB3.out HPP.out.2.1 HPP.out.1 HPP.out.2.2 hB hs hp hn HS0.out); clear hB hy hp hs hn)))
  have HLV : Hid (LvI w w4 n b w1.heap.size 0 p y []) := Lib.hid ⟨D0, R0, _, _, s0, HPL4.out, HM0.out, HSZ0.out, by have h9 := openK_range D0 HD2.out.d.ok 2; rw [show openK D0 2 = openT D0 from rfl, HS0.out.1] at h9; exact h9.2.2.1⟩
  generalize hxb : w1.heap.size = x at *
  clear HD1 HB1 HN HRN HD2 HB3 HPP HPL4 hxb HM0 HSZ0 HOE HS0
  go_loopw [9, 11, 13] (fun s9 s11 s13 wr => ∃ (j p y : Nat), j ≤ ops.length ∧ j ≤ 40 ∧ s9 = .pointer (some ⟨p, 0, none⟩) ∧ s11 = .pointer (some ⟨y, 0, none⟩) ∧ s13 = .int .i64 j ∧ Hid (LvI w wr n b x (5 * j) p y [])) (fun _ _ s13 _ => 40 - (intOf s13).toNat)
  case atStart => exact ⟨0, p, y, Nat.zero_le _, Nat.zero_le _, rfl, rfl, rfl, HLV⟩
  case round =>
    clear HLV
    obtain ⟨j, p, y, hj, hj40, rfl, rfl, rfl, HL⟩ := hrel
    by_cases hlt : j < ops.length ∧ j < 40
    rotate_left
    · obtain ⟨_, _, _, _, _, hpl, _⟩ := HL.out
      have HBB := Lib.hid hpl.B
      clear hpl
      by_cases h9 : j < ops.length
      all_goals
        (try have h8 : ¬ j < 40 := fun h8 => hlt ⟨by assumption, h8⟩)
        go_wp2_with (first | (go_at_call 9; ((with_reducible refine (alive_any _).mono ?_); rintro e w1 ⟨rfl, hB1⟩; have HB5 := Lib.hid (below_then HBB.out HBB.out.size hB1); clear hB1)))
        go_ret
        exact ⟨rfl, HB5.out⟩
    obtain ⟨hlt1, hlt2⟩ := hlt
    obtain ⟨ob, oo, rfl, hob, hr⟩ : ∃ b o, A = some ⟨b, o, none⟩ ∧ b < w.heap.size ∧ ∀ j (h : j < ops.length), w.rangeAt b (o + j * 6) ops[j].cells.toList := by
      rcases HO.out with h9 | h9
      · subst h9; exact absurd hlt1 (Nat.not_lt_zero _)
      · exact h9
    have hr1 := hr j hlt1
    have HOK1 := Lib.hid (HOK.out ops[j] (List.getElem_mem hlt1))
    have HRG : Hid (wr.rangeAt ob (oo + j * 6) ops[j].cells.toList) := Lib.hid (fun i v hv => by obtain ⟨_, _, _, _, _, hpl, _⟩ := HL.out; exact pw_cell_below hpl.B (hr1 i v hv))
    clear hr hr1 hob
    generalize ops[j] = o at *
    obtain ⟨ok, oa, on, ot, os, ⟨ra, rl, rc⟩⟩ := o
    have hlb := HOK1.out.row.rd.2.1
    simp only at hlb
    have hsb := HOK1.out.sort
    simp only at hsb
    have hps : (PO.cells ⟨ok, oa, on, ot, os, ⟨ra, rl, rc⟩⟩).size = 6 := rfl
    have hpa : ones6 (PO.cells ⟨ok, oa, on, ot, os, ⟨ra, rl, rc⟩⟩) = true := by unfold ones6; rw [po_all]; rfl
    have HCL : Hid (∀ W : World, W.heap[wr.heap.size]? = some (.cells (PO.cells ⟨ok, oa, on, ot, os, ⟨ra, rl, rc⟩⟩) 60 (0, 0)) → W.cell? ⟨wr.heap.size, 0, none⟩ = some (.int .i64 ok) ∧ W.cell? ⟨wr.heap.size, 1, none⟩ = some (.int .i64 oa) ∧ W.cell? ⟨wr.heap.size, 2, none⟩ = some (.int .i64 on) ∧ W.cell? ⟨wr.heap.size, 3, none⟩ = some (.int .i64 ot) ∧ W.cell? ⟨wr.heap.size, 4, none⟩ = some (.int .u8 os) ∧ W.cell? ⟨wr.heap.size, 5, none⟩ = some (.slice ra rl.length rc)) :=
      Lib.hid (fun W hb => ⟨(blk_cell hb 0).trans rfl, (blk_cell hb 1).trans rfl, (blk_cell hb 2).trans rfl, (blk_cell hb 3).trans rfl, (blk_cell hb 4).trans rfl, (blk_cell hb 5).trans rfl⟩)
    generalize (PO.cells ⟨ok, oa, on, ot, os, ⟨ra, rl, rc⟩⟩) = cs at *
    have HLN : Hid (LvI w (wr.alloc (.cells cs 60)) n b x (5 * j) p y [(wr.heap.size, .cells cs 60)]) := Lib.hid (by
      obtain ⟨D, R, fs, gs, s, hpl, hm, hs, hrl⟩ := HL.out
      exact ⟨D, R, fs, gs, s, hpl.new _, hm, hs, hrl⟩)
    have HKO : Hid (∀ {W : World} {k p y : Nat}, LvI w W n b x k p y [(wr.heap.size, .cells cs 60)] → W.heap[wr.heap.size]? = some (.cells cs 60 (0, 0)) ∧ Below w.heap.size w W) := Lib.hid (fun ⟨_, _, _, _, _, hpl, _⟩ => ⟨(hpl.ko _ List.mem_cons_self).1, hpl.B⟩)
    obtain ⟨l0, l1, l2, l3, l4, l5⟩ := HCL.out _ (HKO.out HLN.out).1
    by_cases hgr : 1200 < rl.length
    · go_wp2_with (first
        | ((with_reducible refine at_load_mid (x := .tmp 83) (d := some 84) ob (oo + j * 6) cs.toList _ HRG.out Try.underlying60 (by rw [Array.length_toList, hps]; kernel_rfl) rfl ?_ ?_); rfl)
        | (go_at_call 9; ((with_reducible refine (alive_any _).mono ?_); rintro e3 w3 ⟨rfl, hB⟩; have HB4 := Lib.hid (below_then (HKO.out HLN.out).2 (HKO.out HLN.out).2.size hB); clear hB)))
      go_ret
      exact ⟨rfl, HB4.out⟩
    go_upto_block 2 with (first
      | ((with_reducible refine at_load_mid (x := .tmp 83) (d := some 84) ob (oo + j * 6) cs.toList _ HRG.out Try.underlying60 (by rw [Array.length_toList, hps]; kernel_rfl) rfl ?_ ?_); rfl))
    go_cut [9, 10, 11, 12] from 92 to 175 (fun s9 _ s11 _ wx => ∃ (p y : Nat), s9 = .pointer (some ⟨p, 0, none⟩) ∧ s11 = .pointer (some ⟨y, 0, none⟩) ∧ Hid (LvI w wx n b x (5 * (j + 1)) p y [(wr.heap.size, .cells cs 60)]))
    case first =>
      obtain ⟨D, R, fs, gs, s, hpl, hm, hsz, hrl⟩ := HLN.out
      have HPL := Lib.hid hpl
      have HM := Lib.hid hm
      have HSR := Lib.hid (And.intro hsz hrl)
      have HRDD : Hid (ReadsInt (wr.alloc (.cells cs 60)).drew .u8 ra rl.length rl) := Lib.hid (reads_below8 HOK1.out.row.rd hpl.drew.B)
      have HRX : Hid (∀ (W : World), Below w.heap.size w W → ReadsInt W .u8 ra rl.length rl) := Lib.hid (fun W hB => reads_below8 HOK1.out.row.rd hB)
      have HRB := Lib.hid HOK1.out.row.by_
      have hpn : D.pend.length ≤ 999998000 := by have h9 := hm.n; have h8 := hm.rel.pend; rw [h8] at h9; omega
      have HQ := Lib.hid (And.intro hm.d hpn)
      have HLO : Hid (∀ (fs' : Nat → Prop) (p' : Nat), (∀ i, ProgB wr fs' p' i → w.heap.size ≤ i) → True) := Lib.hid (fun _ _ _ => trivial)
      clear hpl hm hsz hrl hpn HLO
      by_cases k0 : ok = 0
      · subst k0
        have HW := Lib.hid (swrite_yes p b D s.T s.R s.B fs oa os ra rc rl _ HPL.out.drew.st HPL.out.drew.d HRDD.out HRB.out hsb.1 hsb.2 HQ.out.1 (by have := HQ.out.2; omega))
        have HV := Lib.hid (fun W D2 fs2 s2 (h2 : PLx w W b D2 fs2 p s2 x R gs y s [(wr.heap.size, .cells cs 60)]) => rswrite_yes y x D R s.T s.R s.B gs (5 * j) oa os ra rc rl W h2.rs h2.r HM.out HPL.out.d.ok (HRX.out W h2.B) HRB.out hsb.1 hsb.2 (by omega))
        have HSW : Hid ((swriteV D s.T s.B oa os rl).2.1.size = n) := Lib.hid ((swriteV_size _ _ _ _ _ _).trans HSR.out.1)
        generalize swriteV D s.T s.B oa os rl = sw at *
        have hqq : (sw.1 != sw.1) = false := by simp
        go_wp2
        -- W19
        refine start_ (n := 17) (S := fun w' => w'.cell? ⟨wr.heap.size, 1, none⟩ = some (.int .i64 oa) ∧ w'.cell? ⟨wr.heap.size, 4, none⟩ = some (.int .u8 os) ∧ w'.cell? ⟨wr.heap.size, 5, none⟩ = some (.slice ra rl.length rc)) (ds := []) #[false, false, false, false, false, false, false, false, false, false, false, false, false, false, false, false, false] (by kernel_rfl) rfl rfl ⟨l1, l4, l5⟩ (fun hHeld => ?_)
        refine pure_ (i := 0) (N := some 94) (v := ?_) (a' := ?_) #[true, false, false, false, false, false, false, false, false, false, false, false, false, false, false, false, false] rfl rfl (by kernel_rfl) (fun _ _ _ h => h) (Or.inl ⟨by rfl, ?_⟩) ?_ ?_
        rotate_left
        · intro w'
          go_simp
          with_reducible rfl
        rotate_left
        · simp only [Act.put, List.setIfInBounds_toArray, List.set_cons_zero, List.set_cons_succ, i64_w, i32_w]
          rfl
        refine pure_ (i := 1) (N := some 95) (v := ?_) (a' := ?_) #[true, true, false, false, false, false, false, false, false, false, false, false, false, false, false, false, false] rfl rfl (by kernel_rfl) (fun _ _ _ h => h) (Or.inl ⟨by rfl, ?_⟩) ?_ ?_
        rotate_left
        · intro w'
          go_simp
          with_reducible rfl
        rotate_left
        · simp only [Act.put, List.setIfInBounds_toArray, List.set_cons_zero, List.set_cons_succ, i64_w, i32_w]
          rfl
        refine pure_ (i := 3) (N := some 97) (v := ?_) (a' := ?_) #[true, true, false, true, false, false, false, false, false, false, false, false, false, false, false, false, false] rfl rfl (by kernel_rfl) (fun _ _ _ h => h) (Or.inl ⟨by rfl, ?_⟩) ?_ ?_
        rotate_left
        · intro w'
          go_simp
          with_reducible rfl
        rotate_left
        · simp only [Act.put, List.setIfInBounds_toArray, List.set_cons_zero, List.set_cons_succ, i64_w, i32_w]
          rfl
        refine pure_ (i := 5) (N := some 99) (v := ?_) (a' := ?_) #[true, true, false, true, false, true, false, false, false, false, false, false, false, false, false, false, false] rfl rfl (by kernel_rfl) (fun _ _ _ h => h) (Or.inl ⟨by rfl, ?_⟩) ?_ ?_
        rotate_left
        · intro w'
          go_simp
          with_reducible rfl
        rotate_left
        · simp only [Act.put, List.setIfInBounds_toArray, List.set_cons_zero, List.set_cons_succ, i64_w, i32_w]
          rfl
        refine pure_ (i := 8) (N := some 102) (v := ?_) (a' := ?_) #[true, true, false, true, false, true, false, false, true, false, false, false, false, false, false, false, false] rfl rfl (by kernel_rfl) (fun _ _ _ h => h) (Or.inl ⟨by rfl, ?_⟩) ?_ ?_
        rotate_left
        · intro w'
          go_simp
          with_reducible rfl
        rotate_left
        · simp only [Act.put, List.setIfInBounds_toArray, List.set_cons_zero, List.set_cons_succ, i64_w, i32_w]
          rfl
        refine pure_ (i := 9) (N := some 103) (v := ?_) (a' := ?_) #[true, true, false, true, false, true, false, false, true, true, false, false, false, false, false, false, false] rfl rfl (by kernel_rfl) (fun _ _ _ h => h) (Or.inl ⟨by rfl, ?_⟩) ?_ ?_
        rotate_left
        · intro w'
          go_simp
          with_reducible rfl
        rotate_left
        · simp only [Act.put, List.setIfInBounds_toArray, List.set_cons_zero, List.set_cons_succ, i64_w, i32_w]
          rfl
        refine pure_ (i := 11) (N := some 105) (v := ?_) (a' := ?_) #[true, true, false, true, false, true, false, false, true, true, false, true, false, false, false, false, false] rfl rfl (by kernel_rfl) (fun _ _ _ h => h) (Or.inl ⟨by rfl, ?_⟩) ?_ ?_
        rotate_left
        · intro w'
          go_simp
          with_reducible rfl
        rotate_left
        · simp only [Act.put, List.setIfInBounds_toArray, List.set_cons_zero, List.set_cons_succ, i64_w, i32_w]
          rfl
        refine pure_ (i := 13) (N := some 107) (v := ?_) (a' := ?_) #[true, true, false, true, false, true, false, false, true, true, false, true, false, true, false, false, false] rfl rfl (by kernel_rfl) (fun _ _ _ h => h) (Or.inl ⟨by rfl, ?_⟩) ?_ ?_
        rotate_left
        · intro w'
          go_simp
          with_reducible rfl
        rotate_left
        · simp only [Act.put, List.setIfInBounds_toArray, List.set_cons_zero, List.set_cons_succ, i64_w, i32_w]
          rfl
        refine take_ (i := 2) (N := some 96) (v := ?_) (a' := ?_) #[true, true, true, true, false, true, false, false, true, true, false, true, false, true, false, false, false] rfl rfl (by kernel_rfl) (fun _ _ _ h => h) (Or.inl ⟨by rfl, ?_⟩) hHeld ?_ ?_
        rotate_left
        · rintro w' ⟨s0, s1, s2⟩
          go_simp
          with_reducible rfl
        rotate_left
        · simp only [Act.put, List.setIfInBounds_toArray, List.set_cons_zero, List.set_cons_succ, i64_w, i32_w]
          rfl
        refine take_ (i := 4) (N := some 98) (v := ?_) (a' := ?_) #[true, true, true, true, true, true, false, false, true, true, false, true, false, true, false, false, false] rfl rfl (by kernel_rfl) (fun _ _ _ h => h) (Or.inl ⟨by rfl, ?_⟩) hHeld ?_ ?_
        rotate_left
        · rintro w' ⟨s0, s1, s2⟩
          go_simp
          with_reducible rfl
        rotate_left
        · simp only [Act.put, List.setIfInBounds_toArray, List.set_cons_zero, List.set_cons_succ, i64_w, i32_w]
          rfl
        refine take_ (i := 6) (N := some 100) (v := ?_) (a' := ?_) #[true, true, true, true, true, true, true, false, true, true, false, true, false, true, false, false, false] rfl rfl (by kernel_rfl) (fun _ _ _ h => h) (Or.inl ⟨by rfl, ?_⟩) hHeld ?_ ?_
        rotate_left
        · rintro w' ⟨s0, s1, s2⟩
          go_simp
          with_reducible rfl
        rotate_left
        · simp only [Act.put, List.setIfInBounds_toArray, List.set_cons_zero, List.set_cons_succ, i64_w, i32_w]
          rfl
        refine take_ (i := 10) (N := some 104) (v := ?_) (a' := ?_) #[true, true, true, true, true, true, true, false, true, true, true, true, false, true, false, false, false] rfl rfl (by kernel_rfl) (fun _ _ _ h => h) (Or.inl ⟨by rfl, ?_⟩) hHeld ?_ ?_
        rotate_left
        · rintro w' ⟨s0, s1, s2⟩
          go_simp
          with_reducible rfl
        rotate_left
        · simp only [Act.put, List.setIfInBounds_toArray, List.set_cons_zero, List.set_cons_succ, i64_w, i32_w]
          rfl
        refine take_ (i := 12) (N := some 106) (v := ?_) (a' := ?_) #[true, true, true, true, true, true, true, false, true, true, true, true, true, true, false, false, false] rfl rfl (by kernel_rfl) (fun _ _ _ h => h) (Or.inl ⟨by rfl, ?_⟩) hHeld ?_ ?_
        rotate_left
        · rintro w' ⟨s0, s1, s2⟩
          go_simp
          with_reducible rfl
        rotate_left
        · simp only [Act.put, List.setIfInBounds_toArray, List.set_cons_zero, List.set_cons_succ, i64_w, i32_w]
          rfl
        refine take_ (i := 14) (N := some 108) (v := ?_) (a' := ?_) #[true, true, true, true, true, true, true, false, true, true, true, true, true, true, true, false, false] rfl rfl (by kernel_rfl) (fun _ _ _ h => h) (Or.inl ⟨by rfl, ?_⟩) hHeld ?_ ?_
        rotate_left
        · rintro w' ⟨s0, s1, s2⟩
          go_simp
          with_reducible rfl
        rotate_left
        · simp only [Act.put, List.setIfInBounds_toArray, List.set_cons_zero, List.set_cons_succ, i64_w, i32_w]
          rfl
        refine one_ (i := 7) (N := some 101) #[true, true, true, true, true, true, true, true, true, true, true, true, true, true, true, false, false] rfl rfl (by kernel_rfl) (by decide) (fun K hK => ?_)
        refine goes_ Try.func16 (by kernel_rfl) rfl #[.pointer (some ⟨p, 0, none⟩), .int .i64 oa, .int .u8 os, .slice ra rl.length rc] (by rfl) rfl rfl (by simp only [List.map_toArray, List.map_cons, List.map_nil] <;> rfl) ?_
        with_reducible refine (HW.out).mono ?_
        rintro e2 w2 ⟨rfl, hE⟩
        refine ⟨_, rfl, ?_⟩
        obtain ⟨fs2, hp2⟩ := HPL.out.drew.prog hE
        have HP2 := Lib.hid hp2
        obtain ⟨m0, m1, m2, m3, m4, m5⟩ := HCL.out w2 (hp2.ko _ List.mem_cons_self).1
        clear hE hp2
        refine hK.out _ _ ⟨m1, m4, m5⟩ (fun hHeld => ?_)
        clear hK K
        refine norm_ (a' := ?_) ?_ ?_
        rotate_left
        · show Act.put _ (some 101) _ = _
          simp only [Act.put, List.setIfInBounds_toArray, List.set_cons_zero, List.set_cons_succ, i64_w, i32_w]
          rfl
        refine one_ (i := 15) (N := some 109) #[true, true, true, true, true, true, true, true, true, true, true, true, true, true, true, true, false] rfl rfl (by kernel_rfl) (by decide) (fun K hK => ?_)
        refine goes_ Try.func24 (by kernel_rfl) rfl #[.pointer (some ⟨y, 0, none⟩), .int .i64 oa, .int .u8 os, .slice ra rl.length rc] (by rfl) rfl rfl (by simp only [List.map_toArray, List.map_cons, List.map_nil] <;> rfl) ?_
        with_reducible refine (HV.out w2 _ _ _ HP2.out).mono ?_
        rintro e3 w3 ⟨rfl, R3, hM3, hE⟩
        refine ⟨_, rfl, ?_⟩
        obtain ⟨gs3, hp3⟩ := HP2.out.ref hE
        obtain ⟨q0, q1, q2, q3, q4, q5⟩ := HCL.out w3 (hp3.ko _ List.mem_cons_self).1
        have HL3 : Hid (LvI w w3 n b x (5 * (j + 1)) p y [(wr.heap.size, .cells cs 60)]) := Lib.hid ⟨_, _, _, _, ⟨s.T, s.R, sw.2.2⟩, hp3, hM3.more (by omega), HSW.out, HSR.out.2⟩
        clear hE hp3 hM3
        refine hK.out _ _ ⟨q1, q4, q5⟩ (fun hHeld => ?_)
        clear hK K
        refine norm_ (a' := ?_) ?_ ?_
        rotate_left
        · show Act.put _ (some 109) _ = _
          simp only [Act.put, List.setIfInBounds_toArray, List.set_cons_zero, List.set_cons_succ, i64_w, i32_w]
          rfl
        refine pure_ (i := 16) (N := some 110) (v := ?_) (a' := ?_) #[true, true, true, true, true, true, true, true, true, true, true, true, true, true, true, true, true] rfl rfl (by kernel_rfl) (fun _ _ _ h => h) (Or.inl ⟨by rfl, ?_⟩) ?_ ?_
        rotate_left
        · intro w'
          go_simp
          with_reducible rfl
        rotate_left
        · simp only [Act.put, List.setIfInBounds_toArray, List.set_cons_zero, List.set_cons_succ, i64_w, i32_w]
          rfl
        refine done_ (by kernel_rfl) ?_
        -- ENDW19
        go_wp2
        go_meet
        exact ⟨p, y, rfl, rfl, HL3⟩
      have k0b : (ok == 0) = false := beq_eq_false_iff_ne.mpr k0
      by_cases k1 : ok = 1
      · subst k1
        have HAP : Hid (0 < rl.length → ∀ ad, ra = some ad → ¬ fs ad.block ∧ ad.block ≠ p) := Lib.hid (fun h0 ad e => by
          have hl := reads_lt HOK1.out.row.rd h0 ad e
          exact ⟨fun h9 => by have := HPL.out.lo _ (.inl (.inl h9)); omega, fun h9 => by have := HPL.out.lo _ (.inl (.inr (.inl h9))); omega⟩)
        have HAR : Hid (∀ (W : World) (gs' : Nat → Prop) (y' : Nat), (∀ i, (ProgB W gs' y' i) → w.heap.size ≤ i) → 0 < rl.length → ∀ ad, ra = some ad → ¬ gs' ad.block ∧ ad.block ≠ y') := Lib.hid (fun W gs' y' hlo h0 ad e => by
          have hl := reads_lt HOK1.out.row.rd h0 ad e
          exact ⟨fun h9 => by have := hlo _ (.inl h9); omega, fun h9 => by have := hlo _ (.inr (.inl h9)); omega⟩)
        have HW := Lib.hid (scommit_yes p b D s.T s.R s.B fs ra rc rl _ HPL.out.drew.st HPL.out.drew.d HRDD.out HRB.out HAP.out HQ.out.1 HQ.out.2)
        have HV := Lib.hid (fun W D2 fs2 s2 (h2 : PLx w W b D2 fs2 p s2 x R gs y s [(wr.heap.size, .cells cs 60)]) => rscommit_yes y x D R s.T s.R s.B gs (5 * j) ra rc rl W h2.rs h2.r HM.out HPL.out.d.ok (HRX.out W h2.B) HRB.out (HAR.out W gs y (fun i hi => h2.lo i (.inr hi))) (by omega))
        have HSW : Hid ((scommitV D s.T s.R s.B rl).D.size = n ∧ (scommitV D s.T s.R s.B rl).R.length ≤ 996) := Lib.hid ⟨(scommitV_size _ _ _ _ _).trans HSR.out.1, scommitV_rl _ _ _ _ _ HSR.out.2⟩
        generalize scommitV D s.T s.R s.B rl = sw at *
        have hqq : (sw.e != sw.e) = false := by simp
        go_wp2
        -- W22
        refine start_ (n := 9) (S := fun w' => w'.cell? ⟨wr.heap.size, 5, none⟩ = some (.slice ra rl.length rc)) (ds := []) #[false, false, false, false, false, false, false, false, false] (by kernel_rfl) rfl rfl (l5) (fun hHeld => ?_)
        refine pure_ (i := 0) (N := some 113) (v := ?_) (a' := ?_) #[true, false, false, false, false, false, false, false, false] rfl rfl (by kernel_rfl) (fun _ _ _ h => h) (Or.inl ⟨by rfl, ?_⟩) ?_ ?_
        rotate_left
        · intro w'
          go_simp
          with_reducible rfl
        rotate_left
        · simp only [Act.put, List.setIfInBounds_toArray, List.set_cons_zero, List.set_cons_succ, i64_w, i32_w]
          rfl
        refine pure_ (i := 1) (N := some 114) (v := ?_) (a' := ?_) #[true, true, false, false, false, false, false, false, false] rfl rfl (by kernel_rfl) (fun _ _ _ h => h) (Or.inl ⟨by rfl, ?_⟩) ?_ ?_
        rotate_left
        · intro w'
          go_simp
          with_reducible rfl
        rotate_left
        · simp only [Act.put, List.setIfInBounds_toArray, List.set_cons_zero, List.set_cons_succ, i64_w, i32_w]
          rfl
        refine pure_ (i := 4) (N := some 117) (v := ?_) (a' := ?_) #[true, true, false, false, true, false, false, false, false] rfl rfl (by kernel_rfl) (fun _ _ _ h => h) (Or.inl ⟨by rfl, ?_⟩) ?_ ?_
        rotate_left
        · intro w'
          go_simp
          with_reducible rfl
        rotate_left
        · simp only [Act.put, List.setIfInBounds_toArray, List.set_cons_zero, List.set_cons_succ, i64_w, i32_w]
          rfl
        refine pure_ (i := 5) (N := some 118) (v := ?_) (a' := ?_) #[true, true, false, false, true, true, false, false, false] rfl rfl (by kernel_rfl) (fun _ _ _ h => h) (Or.inl ⟨by rfl, ?_⟩) ?_ ?_
        rotate_left
        · intro w'
          go_simp
          with_reducible rfl
        rotate_left
        · simp only [Act.put, List.setIfInBounds_toArray, List.set_cons_zero, List.set_cons_succ, i64_w, i32_w]
          rfl
        refine take_ (i := 2) (N := some 115) (v := ?_) (a' := ?_) #[true, true, true, false, true, true, false, false, false] rfl rfl (by kernel_rfl) (fun _ _ _ h => h) (Or.inl ⟨by rfl, ?_⟩) hHeld ?_ ?_
        rotate_left
        · intro w' s0
          go_simp
          with_reducible rfl
        rotate_left
        · simp only [Act.put, List.setIfInBounds_toArray, List.set_cons_zero, List.set_cons_succ, i64_w, i32_w]
          rfl
        refine take_ (i := 6) (N := some 119) (v := ?_) (a' := ?_) #[true, true, true, false, true, true, true, false, false] rfl rfl (by kernel_rfl) (fun _ _ _ h => h) (Or.inl ⟨by rfl, ?_⟩) hHeld ?_ ?_
        rotate_left
        · intro w' s0
          go_simp
          with_reducible rfl
        rotate_left
        · simp only [Act.put, List.setIfInBounds_toArray, List.set_cons_zero, List.set_cons_succ, i64_w, i32_w]
          rfl
        refine one_ (i := 3) (N := some 116) #[true, true, true, true, true, true, true, false, false] rfl rfl (by kernel_rfl) (by decide) (fun K hK => ?_)
        refine goes_ Try.func17 (by kernel_rfl) rfl #[.pointer (some ⟨p, 0, none⟩), .slice ra rl.length rc] (by rfl) rfl rfl (by simp only [List.map_toArray, List.map_cons, List.map_nil] <;> rfl) ?_
        with_reducible refine (HW.out).mono ?_
        rintro e2 w2 ⟨rfl, hE⟩
        refine ⟨_, rfl, ?_⟩
        obtain ⟨fs2, hp2⟩ := HPL.out.drew.prog hE
        have HP2 := Lib.hid hp2
        obtain ⟨m0, m1, m2, m3, m4, m5⟩ := HCL.out w2 (hp2.ko _ List.mem_cons_self).1
        clear hE hp2
        refine hK.out _ _ (m5) (fun hHeld => ?_)
        clear hK K
        refine norm_ (a' := ?_) ?_ ?_
        rotate_left
        · show Act.put _ (some 116) _ = _
          simp only [Act.put, List.setIfInBounds_toArray, List.set_cons_zero, List.set_cons_succ, i64_w, i32_w]
          rfl
        refine one_ (i := 7) (N := some 120) #[true, true, true, true, true, true, true, true, false] rfl rfl (by kernel_rfl) (by decide) (fun K hK => ?_)
        refine goes_ Try.func25 (by kernel_rfl) rfl #[.pointer (some ⟨y, 0, none⟩), .slice ra rl.length rc] (by rfl) rfl rfl (by simp only [List.map_toArray, List.map_cons, List.map_nil] <;> rfl) ?_
        with_reducible refine (HV.out w2 _ _ _ HP2.out).mono ?_
        rintro e3 w3 ⟨rfl, R3, hM3, hE⟩
        refine ⟨_, rfl, ?_⟩
        obtain ⟨gs3, hp3⟩ := HP2.out.ref hE
        obtain ⟨q0, q1, q2, q3, q4, q5⟩ := HCL.out w3 (hp3.ko _ List.mem_cons_self).1
        have HL3 : Hid (LvI w w3 n b x (5 * (j + 1)) p y [(wr.heap.size, .cells cs 60)]) := Lib.hid ⟨_, _, _, _, ⟨sw.T, sw.R, sw.B⟩, hp3, hM3.more (by omega), HSW.out.1, HSW.out.2⟩
        clear hE hp3 hM3
        refine hK.out _ _ (q5) (fun hHeld => ?_)
        clear hK K
        refine norm_ (a' := ?_) ?_ ?_
        rotate_left
        · show Act.put _ (some 120) _ = _
          simp only [Act.put, List.setIfInBounds_toArray, List.set_cons_zero, List.set_cons_succ, i64_w, i32_w]
          rfl
        refine pure_ (i := 8) (N := some 121) (v := ?_) (a' := ?_) #[true, true, true, true, true, true, true, true, true] rfl rfl (by kernel_rfl) (fun _ _ _ h => h) (Or.inl ⟨by rfl, ?_⟩) ?_ ?_
        rotate_left
        · intro w'
          go_simp
          with_reducible rfl
        rotate_left
        · simp only [Act.put, List.setIfInBounds_toArray, List.set_cons_zero, List.set_cons_succ, i64_w, i32_w]
          rfl
        refine done_ (by kernel_rfl) ?_
        -- ENDW22
        go_wp2
        go_meet
        exact ⟨p, y, rfl, rfl, HL3⟩
      have k1b : (ok == 1) = false := beq_eq_false_iff_ne.mpr k1
      by_cases k2 : ok = 2
      · subst k2
        have HMF := Lib.hid (HM.out.fail on 7 HOK1.out.n)
        have HSF : Hid ((failV D on 7).2.size = n) := Lib.hid ((failV_size _ _ _).trans HSR.out.1)
        go_wp2_with (first
          | (go_at_call 26; ((with_reducible refine (pl_fail HPL.out.d HPL.out.st on 7).mono ?_); rintro e w2 ⟨rfl, hE⟩; obtain ⟨fs2, hp2⟩ := HPL.out.prog hE; have HP2 := Lib.hid hp2; obtain ⟨m0, m1, m2, m3, m4, m5⟩ := HCL.out w2 (hp2.ko _ List.mem_cons_self).1; clear hE hp2))
          | (go_at_call 27; ((with_reducible refine (ref_fail HP2.out.r HP2.out.rs on 7).mono ?_); rintro e w3 ⟨rfl, hE⟩; obtain ⟨gs3, hp3⟩ := HP2.out.ref hE; have HL3 : Hid (LvI w w3 n b x (5 * (j + 1)) p y [(wr.heap.size, .cells cs 60)]) := Lib.hid ⟨_, _, _, _, s, hp3, HMF.out.2.more (by omega), HSF.out, HSR.out.2⟩; clear hE hp3)))
        go_meet
        exact ⟨p, y, rfl, rfl, HL3⟩
      have k2b : (ok == 2) = false := beq_eq_false_iff_ne.mpr k2
      by_cases k3 : ok = 3
      rotate_left
      · have k3b : (ok == 3) = false := beq_eq_false_iff_ne.mpr k3
        have HL3 : Hid (LvI w (wr.alloc (.cells cs 60)) n b x (5 * (j + 1)) p y [(wr.heap.size, .cells cs 60)]) := Lib.hid ⟨D, R, fs, gs, s, HPL.out, HM.out.more (by omega), HSR.out.1, HSR.out.2⟩
        go_wp2
        go_meet
        exact ⟨p, y, rfl, rfl, HL3⟩
      subst k3
      have HMC := Lib.hid (HM.out.crash on ot)
      have HSC : Hid ((crashV D on ot).size = n) := Lib.hid HSR.out.1
      have hpm : R.sure.length + R.pend.length ≤ 1000000000 := by have := HM.out.n; omega
      have HPM := Lib.hid hpm
      clear hpm
      by_cases hoe : openE (crashV D on ot) = 0
      rotate_left
      · have HOE := Lib.hid hoe
        go_wp2_with (first
          | (go_at_call 28; ((with_reducible refine (pl_crash HPL.out.d HPL.out.st on ot).mono ?_); rintro e w2 ⟨rfl, hE⟩; obtain ⟨fs2, hp2⟩ := HPL.out.prog hE; have HP2 := Lib.hid hp2; obtain ⟨m0, m1, m2, m3, m4, m5⟩ := HCL.out w2 (hp2.ko _ List.mem_cons_self).1; clear hE hp2))
          | (go_at_call 29; ((with_reducible refine (ref_crash HP2.out.r HP2.out.rs on ot HPM.out).mono ?_); rintro e w3 ⟨rfl, hE⟩; obtain ⟨gs3, hp3⟩ := HP2.out.ref hE; have HP3 := Lib.hid hp3; clear hE hp3))
          | (go_at_call 14; ((with_reducible refine (open_any b _ _ w3 HP3.out.d).mono ?_); rintro e w4 ⟨v4, rfl, hB, _, hn⟩; obtain rfl := hn HOE.out; have HB4 := Lib.hid hB; clear hB hn))
          | (go_at_call 23; ((with_reducible refine (ropen_any x _ _ _ w4 (HP3.out.below HB4.out).r HMC.out.rel HP3.out.d.ok).mono ?_); rintro e w5 ⟨v5, rfl, hB, _, hn⟩; obtain rfl := hn HOE.out; have HB5 := Lib.hid ((HP3.out.below HB4.out).below hB).B; clear hB hn))
          | (go_at_call 9; ((with_reducible refine (alive_any _).mono ?_); rintro e3 w6 ⟨rfl, hB⟩; have HB6 := Lib.hid (below_then HB5.out HB5.out.size hB); clear hB)))
        go_ret
        exact ⟨rfl, HB6.out⟩
      have HOE := Lib.hid hoe
      obtain ⟨s2, hs2⟩ : ∃ s2 : SV, openT (crashV D on ot) = (s2.T, s2.R) ∧ s2.B = false := ⟨⟨(openT (crashV D on ot)).1, (openT (crashV D on ot)).2, false⟩, rfl, rfl⟩
      have HS2 := Lib.hid hs2
      have hs2l : s2.R.length ≤ 996 := by
        have h9 := openK_range (crashV D on ot) (crashV_ok HPL.out.d.ok on ot) 2
        rw [show openK (crashV D on ot) 2 = openT (crashV D on ot) from rfl, hs2.1] at h9
        exact h9.2.2.1
      have HS2L := Lib.hid hs2l
      clear hs2 hs2l
      go_wp2_with (first
        | (go_at_call 28; ((with_reducible refine (pl_crash HPL.out.d HPL.out.st on ot).mono ?_); rintro e w2 ⟨rfl, hE⟩; obtain ⟨fs2, hp2⟩ := HPL.out.prog hE; have HP2 := Lib.hid hp2; obtain ⟨m0, m1, m2, m3, m4, m5⟩ := HCL.out w2 (hp2.ko _ List.mem_cons_self).1; clear hE hp2))
        | (go_at_call 29; ((with_reducible refine (ref_crash HP2.out.r HP2.out.rs on ot HPM.out).mono ?_); rintro e w3 ⟨rfl, hE⟩; obtain ⟨gs3, hp3⟩ := HP2.out.ref hE; have HP3 := Lib.hid hp3; clear hE hp3))
        | (go_at_call 14; ((with_reducible refine (open_any b _ _ w3 HP3.out.d).mono ?_); rintro e w4 ⟨v4, rfl, hB, hy, _⟩; obtain ⟨p2, rfl, hp, hs, hn⟩ := hy HOE.out; have HB4 := Lib.hid hB; have HPP := Lib.hid (And.intro hp (And.intro hs hn)); clear hB hy hp hs hn))
        | (go_at_call 23; ((with_reducible refine (ropen_any x _ _ _ w4 (HP3.out.below HB4.out).r HMC.out.rel HP3.out.d.ok).mono ?_); rintro e w5 ⟨v5, rfl, hB, hy, _⟩; obtain ⟨y2, rfl, hp, hs, hn⟩ := hy HOE.out; have HL3 : Hid (LvI w w5 n b x (5 * (j + 1)) p2 y2 [(wr.heap.size, .cells cs 60)]) := Lib.hid ⟨_, _, _, _, s2, reopened_at HP3.out HB4.out HPP.out.2.1 HPP.out.1 HPP.out.2.2 hB hs hp hn HS2.out, HMC.out.more (by omega), HSC.out, HS2L.out⟩; clear hB hy hp hs hn)))
      go_meet
      exact ⟨p2, y2, rfl, rfl, HL3⟩
    case rest =>
      obtain ⟨p, y, rfl, rfl, HLV⟩ := hcut
      obtain ⟨D, R, fs, gs, s, hpl, hm, hsz, hrl⟩ := HLV.out
      have HPL := Lib.hid hpl
      have HM := Lib.hid hm
      have HSR := Lib.hid (And.intro hsz hrl)
      have HDO := Lib.hid hpl.d.ok
      clear hpl hm hsz hrl HLN HL
      obtain ⟨k0, k1, k2, k3, k4, k5⟩ := HCL.out wc (HPL.out.ko _ List.mem_cons_self).1
      have HRD := Lib.hid (sread_yes p b D s.T s.R s.B fs oa wc HPL.out.st HPL.out.d)
      have HRR := Lib.hid (fun W (hB : Below wc.heap.size wc W) => rread_yes y x D R s.T s.R s.B gs oa W ((HPL.out.below hB).rs) ((HPL.out.below hB).r) HM.out.rel HDO.out)
      generalize readPV D oa = q at *
      obtain ⟨q1, q2, q3⟩ := q
      simp only at HRD HRR
      go_wp2_with (first
        | (go_at_call 15; ((with_reducible refine HRD.out.mono ?_); rintro e w5 ⟨v5, rfl, hO, hB⟩; obtain ⟨A5, c5, rfl, _, hr5⟩ := hO.reads; have HX5 := Lib.hid hr5; have HB5 := Lib.hid hB; have HP5 := Lib.hid (HPL.out.below hB); obtain ⟨m0, m1, m2, m3, m4, m5⟩ := HCL.out w5 (HP5.out.ko _ List.mem_cons_self).1; clear hO hB hr5))
        | (go_at_call 30; ((with_reducible refine (HRR.out w5 HB5.out).mono ?_); rintro e w6 ⟨v6, rfl, hO, hB⟩; obtain ⟨A6, c6, rfl, _, hr6⟩ := hO.reads; have HX6 := Lib.hid hr6; have HY5 := Lib.hid (HX5.out.below hB); have HP6 := Lib.hid (HP5.out.below hB); clear hO hB hr6)))
      have HL6 : Hid (LvI w w6 n b x (5 * (j + 1)) p y [(wr.heap.size, .cells cs 60)]) := Lib.hid ⟨D, R, fs, gs, s, HP6.out, HM.out, HSR.out.1, HSR.out.2⟩
      obtain ⟨A7, c7, hy2, hrr⟩ := HP6.out.rs.rrow
      have hy1 : w6.cell? ⟨y, 1, none⟩ = some (.int .u64 s.T) := by obtain ⟨v, hb, _⟩ := HP6.out.rs; exact (blk_cell hb 1).trans rfl
      have HTU := Lib.hid (fun W hB => sturn_yes p b s.T s.R s.B fs W (HP6.out.below (w' := W) hB).st)
      have HRO := Lib.hid (fun W hB => sroot_yes p b s.T s.R s.B fs W (HP6.out.below (w' := W) hB).st (by have := HSR.out.2; omega))
      have HPA := Lib.hid (fun W hB => spages_yes p b n W (HP6.out.below (w' := W) hB).st.cells.1 (by rw [← HSR.out.1]; obtain ⟨r, v, hv⟩ := (HP6.out.below (w' := W) hB).d; exact (blk_cell hv.blk 0).trans rfl) (by omega) (by omega))
      have HC5 : Hid (∀ W, Below w6.heap.size w6 W → (convert 23 9 (.slice A5 q2.length c5)).run Try.prog W = .ok (.string (strOfNums q2)) W) := Lib.hid (fun W hB => string_of_reads Try.underlying23 Try.underlying5 Try.underlying9 (HY5.out.below hB))
      have HC6 : Hid (∀ W, Below w6.heap.size w6 W → (convert 23 9 (.slice A6 q2.length c6)).run Try.prog W = .ok (.string (strOfNums q2)) W) := Lib.hid (fun W hB => string_of_reads Try.underlying23 Try.underlying5 Try.underlying9 (HX6.out.below hB))
      have HC7 : Hid (∀ W, Below w6.heap.size w6 W → (convert 23 9 (.slice A7 s.R.length c7)).run Try.prog W = .ok (.string (strOfNums s.R)) W) := Lib.hid (fun W hB => string_of_reads Try.underlying23 Try.underlying5 Try.underlying9 ((Hid.out (Lib.hid hrr)).below hB))
      clear hrr
      have f1 : (q1 != q1) = false := by simp
      have f2 : ((strOfNums q2).toList != (strOfNums q2).toList) = false := by simp
      have f3 : (q3 != q3) = false := by simp
      have f4 : (s.T != s.T) = false := by simp
      have f5 : ((strOfNums s.R).toList != (strOfNums s.R).toList) = false := by simp
      have hn4 : n.tdiv 4 = n / 4 := Int.tdiv_eq_ediv_of_nonneg (by omega)
      have hw4 : wrap64 (n / 4) = n / 4 := wrap64_id _ (by omega) (by omega)
      have f6 : ((n / 4) != (n / 4)) = false := by simp
      go_wp2
      -- W36
      refine start_ (n := 42) (S := fun w' => w'.cell? ⟨y, 1, none⟩ = some (.int .u64 s.T) ∧ w'.cell? ⟨y, 2, none⟩ = some (.slice A7 s.R.length c7) ∧ (convert 23 9 (.slice A5 q2.length c5)).run Try.prog w' = .ok (.string (strOfNums q2)) w' ∧ (convert 23 9 (.slice A6 q2.length c6)).run Try.prog w' = .ok (.string (strOfNums q2)) w' ∧ (convert 23 9 (.slice A7 s.R.length c7)).run Try.prog w' = .ok (.string (strOfNums s.R)) w') (ds := []) #[false, false, false, false, false, false, false, false, false, false, false, false, false, false, false, false, false, false, false, false, false, false, false, false, false, false, false, false, false, false, false, false, false, false, false, false, false, false, false, false, false, false] (by kernel_rfl) rfl rfl ⟨hy1, hy2, HC5.out _ (b_drew (Below.refl _ _)), HC6.out _ (b_drew (Below.refl _ _)), HC7.out _ (b_drew (Below.refl _ _))⟩ (fun hHeld => ?_)
      refine pure_ (i := 0) (N := some 192) (v := ?_) (a' := ?_) #[true, false, false, false, false, false, false, false, false, false, false, false, false, false, false, false, false, false, false, false, false, false, false, false, false, false, false, false, false, false, false, false, false, false, false, false, false, false, false, false, false, false] rfl rfl (by kernel_rfl) (fun _ _ _ h => h) (Or.inl ⟨by rfl, ?_⟩) ?_ ?_
      rotate_left
      · intro w'
        go_simp
        with_reducible rfl
      rotate_left
      · simp only [Act.put, List.setIfInBounds_toArray, List.set_cons_zero, List.set_cons_succ, i64_w, i32_w]
        rfl
      refine pure_ (i := 1) (N := some 193) (v := ?_) (a' := ?_) #[true, true, false, false, false, false, false, false, false, false, false, false, false, false, false, false, false, false, false, false, false, false, false, false, false, false, false, false, false, false, false, false, false, false, false, false, false, false, false, false, false, false] rfl rfl (by kernel_rfl) (fun _ _ _ h => h) (Or.inl ⟨by rfl, ?_⟩) ?_ ?_
      rotate_left
      · intro w'
        go_simp
        with_reducible rfl
      rotate_left
      · simp only [Act.put, List.setIfInBounds_toArray, List.set_cons_zero, List.set_cons_succ, i64_w, i32_w]
        rfl
      refine pure_ (i := 2) (N := some 194) (v := ?_) (a' := ?_) #[true, true, true, false, false, false, false, false, false, false, false, false, false, false, false, false, false, false, false, false, false, false, false, false, false, false, false, false, false, false, false, false, false, false, false, false, false, false, false, false, false, false] rfl rfl (by kernel_rfl) (fun _ _ _ h => h) (Or.inl ⟨by rfl, ?_⟩) ?_ ?_
      rotate_left
      · intro w'
        go_simp
        with_reducible rfl
      rotate_left
      · simp only [Act.put, List.setIfInBounds_toArray, List.set_cons_zero, List.set_cons_succ, i64_w, i32_w]
        rfl
      refine pure_ (i := 3) (N := some 195) (v := ?_) (a' := ?_) #[true, true, true, true, false, false, false, false, false, false, false, false, false, false, false, false, false, false, false, false, false, false, false, false, false, false, false, false, false, false, false, false, false, false, false, false, false, false, false, false, false, false] rfl rfl (by kernel_rfl) (fun _ _ _ h => h) (Or.inl ⟨by rfl, ?_⟩) ?_ ?_
      rotate_left
      · intro w'
        go_simp
        with_reducible rfl
      rotate_left
      · simp only [Act.put, List.setIfInBounds_toArray, List.set_cons_zero, List.set_cons_succ, i64_w, i32_w]
        rfl
      refine pure_ (i := 4) (N := some 196) (v := ?_) (a' := ?_) #[true, true, true, true, true, false, false, false, false, false, false, false, false, false, false, false, false, false, false, false, false, false, false, false, false, false, false, false, false, false, false, false, false, false, false, false, false, false, false, false, false, false] rfl rfl (by kernel_rfl) (fun _ _ _ h => h) (Or.inl ⟨by rfl, ?_⟩) ?_ ?_
      rotate_left
      · intro w'
        go_simp
        with_reducible rfl
      rotate_left
      · simp only [Act.put, List.setIfInBounds_toArray, List.set_cons_zero, List.set_cons_succ, i64_w, i32_w]
        rfl
      refine pure_ (i := 6) (N := some 198) (v := ?_) (a' := ?_) #[true, true, true, true, true, false, true, false, false, false, false, false, false, false, false, false, false, false, false, false, false, false, false, false, false, false, false, false, false, false, false, false, false, false, false, false, false, false, false, false, false, false] rfl rfl (by kernel_rfl) (fun _ _ _ h => h) (Or.inl ⟨by rfl, ?_⟩) ?_ ?_
      rotate_left
      · intro w'
        go_simp
        with_reducible rfl
      rotate_left
      · simp only [Act.put, List.setIfInBounds_toArray, List.set_cons_zero, List.set_cons_succ, i64_w, i32_w]
        rfl
      refine take_ (i := 5) (N := some 197) (v := ?_) (a' := ?_) #[true, true, true, true, true, true, true, false, false, false, false, false, false, false, false, false, false, false, false, false, false, false, false, false, false, false, false, false, false, false, false, false, false, false, false, false, false, false, false, false, false, false] rfl rfl (by kernel_rfl) (fun _ _ _ h => h) (Or.inl ⟨by rfl, ?_⟩) hHeld ?_ ?_
      rotate_left
      · rintro w' ⟨s0, s1, s2, s3, s4⟩
        go_simp
        with_reducible rfl
      rotate_left
      · simp only [Act.put, List.setIfInBounds_toArray, List.set_cons_zero, List.set_cons_succ, i64_w, i32_w]
        rfl
      refine take_ (i := 7) (N := some 199) (v := ?_) (a' := ?_) #[true, true, true, true, true, true, true, true, false, false, false, false, false, false, false, false, false, false, false, false, false, false, false, false, false, false, false, false, false, false, false, false, false, false, false, false, false, false, false, false, false, false] rfl rfl (by kernel_rfl) (fun _ _ _ h => h) (Or.inl ⟨by rfl, ?_⟩) hHeld ?_ ?_
      rotate_left
      · rintro w' ⟨s0, s1, s2, s3, s4⟩
        go_simp
        with_reducible rfl
      rotate_left
      · simp only [Act.put, List.setIfInBounds_toArray, List.set_cons_zero, List.set_cons_succ, i64_w, i32_w]
        rfl
      refine pure_ (i := 8) (N := some 200) (v := ?_) (a' := ?_) #[true, true, true, true, true, true, true, true, true, false, false, false, false, false, false, false, false, false, false, false, false, false, false, false, false, false, false, false, false, false, false, false, false, false, false, false, false, false, false, false, false, false] rfl rfl (by kernel_rfl) (fun _ _ _ h => h) (Or.inl ⟨by rfl, ?_⟩) ?_ ?_
      rotate_left
      · intro w'
        go_simp
        with_reducible rfl
      rotate_left
      · simp only [Act.put, List.setIfInBounds_toArray, List.set_cons_zero, List.set_cons_succ, i64_w, i32_w]
        rfl
      refine pure_ (i := 9) (N := some 201) (v := ?_) (a' := ?_) #[true, true, true, true, true, true, true, true, true, true, false, false, false, false, false, false, false, false, false, false, false, false, false, false, false, false, false, false, false, false, false, false, false, false, false, false, false, false, false, false, false, false] rfl rfl (by kernel_rfl) (fun _ _ _ h => h) (Or.inl ⟨by rfl, ?_⟩) ?_ ?_
      rotate_left
      · intro w'
        go_simp
        with_reducible rfl
      rotate_left
      · simp only [Act.put, List.setIfInBounds_toArray, List.set_cons_zero, List.set_cons_succ, i64_w, i32_w]
        rfl
      refine pure_ (i := 10) (N := some 202) (v := ?_) (a' := ?_) #[true, true, true, true, true, true, true, true, true, true, true, false, false, false, false, false, false, false, false, false, false, false, false, false, false, false, false, false, false, false, false, false, false, false, false, false, false, false, false, false, false, false] rfl rfl (by kernel_rfl) (fun _ _ _ h => h) (Or.inl ⟨by rfl, ?_⟩) ?_ ?_
      rotate_left
      · intro w'
        go_simp
        with_reducible rfl
      rotate_left
      · simp only [Act.put, List.setIfInBounds_toArray, List.set_cons_zero, List.set_cons_succ, i64_w, i32_w]
        rfl
      refine pure_ (i := 11) (N := some 203) (v := ?_) (a' := ?_) #[true, true, true, true, true, true, true, true, true, true, true, true, false, false, false, false, false, false, false, false, false, false, false, false, false, false, false, false, false, false, false, false, false, false, false, false, false, false, false, false, false, false] rfl rfl (by kernel_rfl) (fun _ _ _ h => h) (Or.inl ⟨by rfl, ?_⟩) ?_ ?_
      rotate_left
      · intro w'
        go_simp
        with_reducible rfl
      rotate_left
      · simp only [Act.put, List.setIfInBounds_toArray, List.set_cons_zero, List.set_cons_succ, i64_w, i32_w]
        rfl
      refine pure_ (i := 12) (N := some 204) (v := ?_) (a' := ?_) #[true, true, true, true, true, true, true, true, true, true, true, true, true, false, false, false, false, false, false, false, false, false, false, false, false, false, false, false, false, false, false, false, false, false, false, false, false, false, false, false, false, false] rfl rfl (by kernel_rfl) (fun _ _ _ h => h) (Or.inl ⟨by rfl, ?_⟩) ?_ ?_
      rotate_left
      · intro w'
        go_simp
        with_reducible rfl
      rotate_left
      · simp only [Act.put, List.setIfInBounds_toArray, List.set_cons_zero, List.set_cons_succ, i64_w, i32_w]
        rfl
      refine pure_ (i := 13) (N := some 205) (v := ?_) (a' := ?_) #[true, true, true, true, true, true, true, true, true, true, true, true, true, true, false, false, false, false, false, false, false, false, false, false, false, false, false, false, false, false, false, false, false, false, false, false, false, false, false, false, false, false] rfl rfl (by kernel_rfl) (fun _ _ _ h => h) (Or.inl ⟨by rfl, ?_⟩) ?_ ?_
      rotate_left
      · intro w'
        go_simp
        with_reducible rfl
      rotate_left
      · simp only [Act.put, List.setIfInBounds_toArray, List.set_cons_zero, List.set_cons_succ, i64_w, i32_w]
        rfl
      refine pure_ (i := 14) (N := some 206) (v := ?_) (a' := ?_) #[true, true, true, true, true, true, true, true, true, true, true, true, true, true, true, false, false, false, false, false, false, false, false, false, false, false, false, false, false, false, false, false, false, false, false, false, false, false, false, false, false, false] rfl rfl (by kernel_rfl) (fun _ _ _ h => h) (Or.inl ⟨by rfl, ?_⟩) ?_ ?_
      rotate_left
      · intro w'
        go_simp
        with_reducible rfl
      rotate_left
      · simp only [Act.put, List.setIfInBounds_toArray, List.set_cons_zero, List.set_cons_succ, i64_w, i32_w]
        rfl
      refine pure_ (i := 15) (N := some 207) (v := ?_) (a' := ?_) #[true, true, true, true, true, true, true, true, true, true, true, true, true, true, true, true, false, false, false, false, false, false, false, false, false, false, false, false, false, false, false, false, false, false, false, false, false, false, false, false, false, false] rfl rfl (by kernel_rfl) (fun _ _ _ h => h) (Or.inl ⟨by rfl, ?_⟩) ?_ ?_
      rotate_left
      · intro w'
        go_simp
        with_reducible rfl
      rotate_left
      · simp only [Act.put, List.setIfInBounds_toArray, List.set_cons_zero, List.set_cons_succ, i64_w, i32_w]
        rfl
      refine pure_ (i := 16) (N := some 208) (v := ?_) (a' := ?_) #[true, true, true, true, true, true, true, true, true, true, true, true, true, true, true, true, true, false, false, false, false, false, false, false, false, false, false, false, false, false, false, false, false, false, false, false, false, false, false, false, false, false] rfl rfl (by kernel_rfl) (fun _ _ _ h => h) (Or.inl ⟨by rfl, ?_⟩) ?_ ?_
      rotate_left
      · intro w'
        go_simp
        with_reducible rfl
      rotate_left
      · simp only [Act.put, List.setIfInBounds_toArray, List.set_cons_zero, List.set_cons_succ, i64_w, i32_w]
        rfl
      refine pure_ (i := 18) (N := some 210) (v := ?_) (a' := ?_) #[true, true, true, true, true, true, true, true, true, true, true, true, true, true, true, true, true, false, true, false, false, false, false, false, false, false, false, false, false, false, false, false, false, false, false, false, false, false, false, false, false, false] rfl rfl (by kernel_rfl) (fun _ _ _ h => h) (Or.inl ⟨by rfl, ?_⟩) ?_ ?_
      rotate_left
      · intro w'
        go_simp
        with_reducible rfl
      rotate_left
      · simp only [Act.put, List.setIfInBounds_toArray, List.set_cons_zero, List.set_cons_succ, i64_w, i32_w]
        rfl
      refine pure_ (i := 19) (N := some 211) (v := ?_) (a' := ?_) #[true, true, true, true, true, true, true, true, true, true, true, true, true, true, true, true, true, false, true, true, false, false, false, false, false, false, false, false, false, false, false, false, false, false, false, false, false, false, false, false, false, false] rfl rfl (by kernel_rfl) (fun _ _ _ h => h) (Or.inl ⟨by rfl, ?_⟩) ?_ ?_
      rotate_left
      · intro w'
        go_simp
        with_reducible rfl
      rotate_left
      · simp only [Act.put, List.setIfInBounds_toArray, List.set_cons_zero, List.set_cons_succ, i64_w, i32_w]
        rfl
      refine pure_ (i := 20) (N := some 212) (v := ?_) (a' := ?_) #[true, true, true, true, true, true, true, true, true, true, true, true, true, true, true, true, true, false, true, true, true, false, false, false, false, false, false, false, false, false, false, false, false, false, false, false, false, false, false, false, false, false] rfl rfl (by kernel_rfl) (fun _ _ _ h => h) (Or.inl ⟨by rfl, ?_⟩) ?_ ?_
      rotate_left
      · intro w'
        go_simp
        with_reducible rfl
      rotate_left
      · simp only [Act.put, List.setIfInBounds_toArray, List.set_cons_zero, List.set_cons_succ, i64_w, i32_w]
        rfl
      refine take_ (i := 21) (N := some 213) (v := ?_) (a' := ?_) #[true, true, true, true, true, true, true, true, true, true, true, true, true, true, true, true, true, false, true, true, true, true, false, false, false, false, false, false, false, false, false, false, false, false, false, false, false, false, false, false, false, false] rfl rfl (by kernel_rfl) (fun _ _ _ h => h) (Or.inl ⟨by rfl, ?_⟩) hHeld ?_ ?_
      rotate_left
      · rintro w' ⟨s0, s1, s2, s3, s4⟩
        go_simp
        with_reducible rfl
      rotate_left
      · simp only [Act.put, List.setIfInBounds_toArray, List.set_cons_zero, List.set_cons_succ, i64_w, i32_w]
        rfl
      refine one_ (i := 17) (N := some 209) #[true, true, true, true, true, true, true, true, true, true, true, true, true, true, true, true, true, true, true, true, true, true, false, false, false, false, false, false, false, false, false, false, false, false, false, false, false, false, false, false, false, false] rfl rfl (by kernel_rfl) (by decide) (fun K hK => ?_)
      refine goes_ Try.func20 (by kernel_rfl) rfl #[.pointer (some ⟨p, 0, none⟩)] (by rfl) rfl rfl (by simp only [List.map_toArray, List.map_cons, List.map_nil] <;> rfl) ?_
      with_reducible refine (HTU.out _ (b_drew (Below.refl _ _))).mono ?_
      rintro e7 w7 ⟨rfl, rfl⟩
      refine ⟨_, rfl, ?_⟩
      refine hK.out _ _ ⟨hy1, hy2, HC5.out _ (b_drew (Below.refl _ _)), HC6.out _ (b_drew (Below.refl _ _)), HC7.out _ (b_drew (Below.refl _ _))⟩ (fun hHeld => ?_)
      clear hK K
      refine norm_ (a' := ?_) ?_ ?_
      rotate_left
      · show Act.put _ (some 209) _ = _
        simp only [Act.put, List.setIfInBounds_toArray, List.set_cons_zero, List.set_cons_succ, i64_w, i32_w]
        rfl
      refine pure_ (i := 22) (N := some 214) (v := ?_) (a' := ?_) #[true, true, true, true, true, true, true, true, true, true, true, true, true, true, true, true, true, true, true, true, true, true, true, false, false, false, false, false, false, false, false, false, false, false, false, false, false, false, false, false, false, false] rfl rfl (by kernel_rfl) (fun _ _ _ h => h) (Or.inl ⟨by rfl, ?_⟩) ?_ ?_
      rotate_left
      · intro w'
        go_simp
        with_reducible rfl
      rotate_left
      · simp only [Act.put, List.setIfInBounds_toArray, List.set_cons_zero, List.set_cons_succ, i64_w, i32_w]
        rfl
      refine pure_ (i := 23) (N := some 215) (v := ?_) (a' := ?_) #[true, true, true, true, true, true, true, true, true, true, true, true, true, true, true, true, true, true, true, true, true, true, true, true, false, false, false, false, false, false, false, false, false, false, false, false, false, false, false, false, false, false] rfl rfl (by kernel_rfl) (fun _ _ _ h => h) (Or.inl ⟨by rfl, ?_⟩) ?_ ?_
      rotate_left
      · intro w'
        go_simp
        with_reducible rfl
      rotate_left
      · simp only [Act.put, List.setIfInBounds_toArray, List.set_cons_zero, List.set_cons_succ, i64_w, i32_w]
        rfl
      refine pure_ (i := 24) (N := some 216) (v := ?_) (a' := ?_) #[true, true, true, true, true, true, true, true, true, true, true, true, true, true, true, true, true, true, true, true, true, true, true, true, true, false, false, false, false, false, false, false, false, false, false, false, false, false, false, false, false, false] rfl rfl (by kernel_rfl) (fun _ _ _ h => h) (Or.inl ⟨by rfl, ?_⟩) ?_ ?_
      rotate_left
      · intro w'
        go_simp
        with_reducible rfl
      rotate_left
      · simp only [Act.put, List.setIfInBounds_toArray, List.set_cons_zero, List.set_cons_succ, i64_w, i32_w]
        rfl
      refine pure_ (i := 25) (N := some 217) (v := ?_) (a' := ?_) #[true, true, true, true, true, true, true, true, true, true, true, true, true, true, true, true, true, true, true, true, true, true, true, true, true, true, false, false, false, false, false, false, false, false, false, false, false, false, false, false, false, false] rfl rfl (by kernel_rfl) (fun _ _ _ h => h) (Or.inl ⟨by rfl, ?_⟩) ?_ ?_
      rotate_left
      · intro w'
        go_simp
        with_reducible rfl
      rotate_left
      · simp only [Act.put, List.setIfInBounds_toArray, List.set_cons_zero, List.set_cons_succ, i64_w, i32_w]
        rfl
      refine pure_ (i := 28) (N := some 220) (v := ?_) (a' := ?_) #[true, true, true, true, true, true, true, true, true, true, true, true, true, true, true, true, true, true, true, true, true, true, true, true, true, true, false, false, true, false, false, false, false, false, false, false, false, false, false, false, false, false] rfl rfl (by kernel_rfl) (fun _ _ _ h => h) (Or.inl ⟨by rfl, ?_⟩) ?_ ?_
      rotate_left
      · intro w'
        go_simp
        with_reducible rfl
      rotate_left
      · simp only [Act.put, List.setIfInBounds_toArray, List.set_cons_zero, List.set_cons_succ, i64_w, i32_w]
        rfl
      refine pure_ (i := 29) (N := some 221) (v := ?_) (a' := ?_) #[true, true, true, true, true, true, true, true, true, true, true, true, true, true, true, true, true, true, true, true, true, true, true, true, true, true, false, false, true, true, false, false, false, false, false, false, false, false, false, false, false, false] rfl rfl (by kernel_rfl) (fun _ _ _ h => h) (Or.inl ⟨by rfl, ?_⟩) ?_ ?_
      rotate_left
      · intro w'
        go_simp
        with_reducible rfl
      rotate_left
      · simp only [Act.put, List.setIfInBounds_toArray, List.set_cons_zero, List.set_cons_succ, i64_w, i32_w]
        rfl
      refine pure_ (i := 30) (N := some 222) (v := ?_) (a' := ?_) #[true, true, true, true, true, true, true, true, true, true, true, true, true, true, true, true, true, true, true, true, true, true, true, true, true, true, false, false, true, true, true, false, false, false, false, false, false, false, false, false, false, false] rfl rfl (by kernel_rfl) (fun _ _ _ h => h) (Or.inl ⟨by rfl, ?_⟩) ?_ ?_
      rotate_left
      · intro w'
        go_simp
        with_reducible rfl
      rotate_left
      · simp only [Act.put, List.setIfInBounds_toArray, List.set_cons_zero, List.set_cons_succ, i64_w, i32_w]
        rfl
      refine take_ (i := 31) (N := some 223) (v := ?_) (a' := ?_) #[true, true, true, true, true, true, true, true, true, true, true, true, true, true, true, true, true, true, true, true, true, true, true, true, true, true, false, false, true, true, true, true, false, false, false, false, false, false, false, false, false, false] rfl rfl (by kernel_rfl) (fun _ _ _ h => h) (Or.inl ⟨by rfl, ?_⟩) hHeld ?_ ?_
      rotate_left
      · rintro w' ⟨s0, s1, s2, s3, s4⟩
        go_simp
        with_reducible rfl
      rotate_left
      · simp only [Act.put, List.setIfInBounds_toArray, List.set_cons_zero, List.set_cons_succ, i64_w, i32_w]
        rfl
      refine take_ (i := 32) (N := some 224) (v := ?_) (a' := ?_) #[true, true, true, true, true, true, true, true, true, true, true, true, true, true, true, true, true, true, true, true, true, true, true, true, true, true, false, false, true, true, true, true, true, false, false, false, false, false, false, false, false, false] rfl rfl (by kernel_rfl) (fun _ _ _ h => h) (Or.inl ⟨by rfl, ?_⟩) hHeld ?_ ?_
      rotate_left
      · rintro w' ⟨s0, s1, s2, s3, s4⟩
        go_simp
        with_reducible rfl
      rotate_left
      · simp only [Act.put, List.setIfInBounds_toArray, List.set_cons_zero, List.set_cons_succ, i64_w, i32_w]
        rfl
      refine one_ (i := 26) (N := some 218) #[true, true, true, true, true, true, true, true, true, true, true, true, true, true, true, true, true, true, true, true, true, true, true, true, true, true, true, false, true, true, true, true, true, false, false, false, false, false, false, false, false, false] rfl rfl (by kernel_rfl) (by decide) (fun K hK => ?_)
      refine goes_ Try.func19 (by kernel_rfl) rfl #[.pointer (some ⟨p, 0, none⟩)] (by rfl) rfl rfl (by simp only [List.map_toArray, List.map_cons, List.map_nil] <;> rfl) ?_
      with_reducible refine (HRO.out _ (b_drew (Below.refl _ _))).mono ?_
      rintro e8 w8 ⟨v8, rfl, hO, hB⟩
      refine ⟨_, rfl, ?_⟩
      obtain ⟨A8, c8, rfl, _, hr8⟩ := hO.reads
      have cv8 := string_of_reads (P := Try.prog) (c := c8) Try.underlying23 Try.underlying5 Try.underlying9 hr8
      have HB8 : Hid (Below w6.heap.size w6 w8) := Lib.hid (below_step (b_drew (Below.refl _ _)) hB)
      have HL8 : Hid (LvI w w8 n b x (5 * (j + 1)) p y [(wr.heap.size, .cells cs 60)]) := Lib.hid (by obtain ⟨D, R, fs, gs, s, hpl, hm, hsz, hrl⟩ := HL6.out; exact ⟨D, R, fs, gs, s, hpl.below HB8.out, hm, hsz, hrl⟩)
      clear hO hB hr8
      refine hK.out _ _ ⟨pw_cell_below HB8.out hy1, pw_cell_below HB8.out hy2, HC5.out _ HB8.out, HC6.out _ HB8.out, HC7.out _ HB8.out⟩ (fun hHeld => ?_)
      clear hK K
      refine norm_ (a' := ?_) ?_ ?_
      rotate_left
      · show Act.put _ (some 218) _ = _
        simp only [Act.put, List.setIfInBounds_toArray, List.set_cons_zero, List.set_cons_succ, i64_w, i32_w]
        rfl
      refine one_ (i := 27) (N := some 219) #[true, true, true, true, true, true, true, true, true, true, true, true, true, true, true, true, true, true, true, true, true, true, true, true, true, true, true, true, true, true, true, true, true, false, false, false, false, false, false, false, false, false] rfl rfl (by kernel_rfl) (by decide) (fun K hK => ?_)
      refine value_ (w1 := ?_) (v := ?_) (by rfl) rfl ?_ ?_
      rotate_left 2
      · go_simp
        constructor
        · rfl
        · rfl
      refine hK.out _ _ ⟨pw_cell_below HB8.out hy1, pw_cell_below HB8.out hy2, HC5.out _ HB8.out, HC6.out _ HB8.out, HC7.out _ HB8.out⟩ (fun hHeld => ?_)
      clear hK K
      refine norm_ (a' := ?_) ?_ ?_
      rotate_left
      · show Act.put _ (some 219) _ = _
        simp only [Act.put, List.setIfInBounds_toArray, List.set_cons_zero, List.set_cons_succ, i64_w, i32_w]
        rfl
      refine pure_ (i := 33) (N := some 225) (v := ?_) (a' := ?_) #[true, true, true, true, true, true, true, true, true, true, true, true, true, true, true, true, true, true, true, true, true, true, true, true, true, true, true, true, true, true, true, true, true, true, false, false, false, false, false, false, false, false] rfl rfl (by kernel_rfl) (fun _ _ _ h => h) (Or.inl ⟨by rfl, ?_⟩) ?_ ?_
      rotate_left
      · intro w'
        go_simp
        with_reducible rfl
      rotate_left
      · simp only [Act.put, List.setIfInBounds_toArray, List.set_cons_zero, List.set_cons_succ, i64_w, i32_w]
        rfl
      refine pure_ (i := 34) (N := some 226) (v := ?_) (a' := ?_) #[true, true, true, true, true, true, true, true, true, true, true, true, true, true, true, true, true, true, true, true, true, true, true, true, true, true, true, true, true, true, true, true, true, true, true, false, false, false, false, false, false, false] rfl rfl (by kernel_rfl) (fun _ _ _ h => h) (Or.inl ⟨by rfl, ?_⟩) ?_ ?_
      rotate_left
      · intro w'
        go_simp
        with_reducible rfl
      rotate_left
      · simp only [Act.put, List.setIfInBounds_toArray, List.set_cons_zero, List.set_cons_succ, i64_w, i32_w]
        rfl
      refine pure_ (i := 35) (N := some 227) (v := ?_) (a' := ?_) #[true, true, true, true, true, true, true, true, true, true, true, true, true, true, true, true, true, true, true, true, true, true, true, true, true, true, true, true, true, true, true, true, true, true, true, true, false, false, false, false, false, false] rfl rfl (by kernel_rfl) (fun _ _ _ h => h) (Or.inl ⟨by rfl, ?_⟩) ?_ ?_
      rotate_left
      · intro w'
        go_simp
        with_reducible rfl
      rotate_left
      · simp only [Act.put, List.setIfInBounds_toArray, List.set_cons_zero, List.set_cons_succ, i64_w, i32_w]
        rfl
      refine pure_ (i := 36) (N := some 228) (v := ?_) (a' := ?_) #[true, true, true, true, true, true, true, true, true, true, true, true, true, true, true, true, true, true, true, true, true, true, true, true, true, true, true, true, true, true, true, true, true, true, true, true, true, false, false, false, false, false] rfl rfl (by kernel_rfl) (fun _ _ _ h => h) (Or.inl ⟨by rfl, ?_⟩) ?_ ?_
      rotate_left
      · intro w'
        go_simp
        with_reducible rfl
      rotate_left
      · simp only [Act.put, List.setIfInBounds_toArray, List.set_cons_zero, List.set_cons_succ, i64_w, i32_w]
        rfl
      refine pure_ (i := 38) (N := some 230) (v := ?_) (a' := ?_) #[true, true, true, true, true, true, true, true, true, true, true, true, true, true, true, true, true, true, true, true, true, true, true, true, true, true, true, true, true, true, true, true, true, true, true, true, true, false, true, false, false, false] rfl rfl (by kernel_rfl) (fun _ _ _ h => h) (Or.inl ⟨by rfl, ?_⟩) ?_ ?_
      rotate_left
      · intro w'
        go_simp
        with_reducible rfl
      rotate_left
      · simp only [Act.put, List.setIfInBounds_toArray, List.set_cons_zero, List.set_cons_succ, i64_w, i32_w]
        rfl
      refine pure_ (i := 39) (N := some 231) (v := ?_) (a' := ?_) #[true, true, true, true, true, true, true, true, true, true, true, true, true, true, true, true, true, true, true, true, true, true, true, true, true, true, true, true, true, true, true, true, true, true, true, true, true, false, true, true, false, false] rfl rfl (by kernel_rfl) (fun _ _ _ h => h) (Or.inl ⟨by rfl, ?_⟩) ?_ ?_
      rotate_left
      · intro w'
        go_simp
        with_reducible rfl
      rotate_left
      · simp only [Act.put, List.setIfInBounds_toArray, List.set_cons_zero, List.set_cons_succ, i64_w, i32_w]
        rfl
      refine one_ (i := 37) (N := some 229) #[true, true, true, true, true, true, true, true, true, true, true, true, true, true, true, true, true, true, true, true, true, true, true, true, true, true, true, true, true, true, true, true, true, true, true, true, true, true, true, true, false, false] rfl rfl (by kernel_rfl) (by decide) (fun K hK => ?_)
      refine goes_ Try.func18 (by kernel_rfl) rfl #[.pointer (some ⟨p, 0, none⟩)] (by rfl) rfl rfl (by simp only [List.map_toArray, List.map_cons, List.map_nil] <;> rfl) ?_
      with_reducible refine (HPA.out _ HB8.out).mono ?_
      rintro e9 w9 ⟨rfl, rfl⟩
      refine ⟨_, rfl, ?_⟩
      refine hK.out _ _ ⟨pw_cell_below HB8.out hy1, pw_cell_below HB8.out hy2, HC5.out _ HB8.out, HC6.out _ HB8.out, HC7.out _ HB8.out⟩ (fun hHeld => ?_)
      clear hK K
      refine norm_ (a' := ?_) ?_ ?_
      rotate_left
      · show Act.put _ (some 229) _ = _
        simp only [Act.put, List.setIfInBounds_toArray, List.set_cons_zero, List.set_cons_succ, i64_w, i32_w]
        rfl
      refine pure_ (i := 40) (N := some 232) (v := ?_) (a' := ?_) #[true, true, true, true, true, true, true, true, true, true, true, true, true, true, true, true, true, true, true, true, true, true, true, true, true, true, true, true, true, true, true, true, true, true, true, true, true, true, true, true, true, false] rfl rfl (by kernel_rfl) (fun _ _ _ h => h) (Or.inl ⟨by rfl, ?_⟩) ?_ ?_
      rotate_left
      · intro w'
        go_simp
        with_reducible rfl
      rotate_left
      · simp only [Act.put, List.setIfInBounds_toArray, List.set_cons_zero, List.set_cons_succ, i64_w, i32_w]
        rfl
      refine pure_ (i := 41) (N := some 233) (v := ?_) (a' := ?_) #[true, true, true, true, true, true, true, true, true, true, true, true, true, true, true, true, true, true, true, true, true, true, true, true, true, true, true, true, true, true, true, true, true, true, true, true, true, true, true, true, true, true] rfl rfl (by kernel_rfl) (fun _ _ _ h => h) (Or.inl ⟨by rfl, ?_⟩) ?_ ?_
      rotate_left
      · intro w'
        go_simp
        with_reducible rfl
      rotate_left
      · simp only [Act.put, List.setIfInBounds_toArray, List.set_cons_zero, List.set_cons_succ, i64_w, i32_w]
        rfl
      refine done_ (by kernel_rfl) ?_
      -- ENDW36
      go_wp2
      go_roundw
      · exact ⟨j + 1, p, y, by omega, by omega, rfl, rfl, by first | rfl | simp, Lib.hid (by obtain ⟨D, R, fs, gs, s, hpl, hm, hsz, hrl⟩ := HL8.out; exact ⟨D, R, fs, gs, s, hpl.forget, hm, hsz, hrl⟩)⟩
      · simp [intOf]; omega
theorem lives29_law (n : Int) (A : Option Addr) (ops : List PO) (c : Nat) (w : World) (_ : (Lit.int .i64 n).wf = true) (hO : PopsAt w A ops) (hok : ∀ o ∈ ops, o.Ok w) (hlen : ops.length ≤ 9223372036854775807) :
    Calls Try.prog 7 #[.int .i64 n, .slice A ops.length c] w fun e w' => e = .returned (.bool true) ∧ Below w.heap.size w w' := by
  by_cases h : 200 < n
  · exact lives29_great n A _ c w h
  by_cases h2 : n < 1
  · exact lives29_none n A _ c w h2
  by_cases h3 : openE (newD n) = 0
  · exact lives29_open n A ops c w (by omega) (by omega) hO hok hlen h3
  · exact lives29_shut n A ops c w (by omega) (by omega) hO hok hlen h3
end Go.Proofs.Ytlmdghafiadgjaa
