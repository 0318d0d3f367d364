/- kind.Right, walked. -/
import Derived.Test.YtdnehnjcbdkgcaaK6
import Derived.WideMake
namespace Go.Proofs.Ytdnehnjcbdkgcaa
set_option linter.unusedVariables false
open Go.RowKit Go.Shelf Go.Proofs.YtdnehnjcbdkgcaaW.PrintWords PKindReads
theorem parB_step (seen : List (List Int)) (p : Pm) (ps : List Pm) : parB seen (p :: ps) = (smallB p.1 && (valueB p.2 && (!decide (p.1 ∈ seen) && parB (seen ++ [p.1]) ps))) := by rw [parB]
theorem take_succ_at {α : Type} (q : List α) (k : Nat) (h : k < q.length) : q.take (k + 1) = q.take k ++ [q[k]] := List.take_succ_eq_append_getElem h
theorem zero_bool (w : World) : (zeroValue 4).run Try.prog w = .ok (.bool false) w := Try.zeroValue4 w
set_option maxRecDepth 100000 in
set_option maxHeartbeats 2000000 in
attribute [local go_sem ↓] Go.run_makeMap_plain in
theorem right_any (t s : List Int) (ps : List Pm) (A : Option Addr) (c : Nat) (w : World) (hk : KOk t s ps) (hP : PRow w A ps) (hc : ps.length ≤ c) :
    Calls Try.prog 17 #[.agg #[.string (St t), .string (St s), .slice A ps.length c]] w fun e w' => e = .returned (.bool (rightB t s ps)) ∧ Below w.heap.size w w' := by
  have HP := Lib.hid hP
  have HK := Lib.hid hk
  have hn := hk.n
  have HSt := Lib.hid (fun W => small_any t W hk.tb (Nat.le_trans hk.tl (by omega)))
  have HSs := Lib.hid (fun W => small_any s W hk.sb (Nat.le_trans hk.sl (by omega)))
  have HV : Hid (rightB t s ps = (parB [] ps && (smallB t && (smallB s && decide (ps.length ≤ 16))))) := Lib.hid rfl
  generalize rightB t s ps = V at *
  clear hP hk
  go_enter Try.func17, Try.ntmps17
  go_wp2
  have HS0 : Hid (SetS ((w.alloc (.cells #[.string (St t), .string (St s), .slice A ps.length c] 25)).alloc (.map #[] 0)) (w.heap.size + 1) []) := Lib.hid (by
    have h := SetS.fresh (w.alloc (.cells #[.string (St t), .string (St s), .slice A ps.length c] 25))
    simpa using h)
  have HB0 : Hid (Below w.heap.size w ((w.alloc (.cells #[.string (St t), .string (St s), .slice A ps.length c] 25)).alloc (.map #[] 0))) := Lib.hid (((Below.refl w.heap.size w).alloc (Nat.le_refl _) _).alloc (by simp) _)
  have HF0 := Lib.hid (blk_alloc (blk_new w (.cells #[.string (St t), .string (St s), .slice A ps.length c] 25)) (.map #[] 0))
  go_loopw [10] (fun s10 wr => ∃ k : Nat, k ≤ ps.length ∧ s10 = .int .i64 k ∧ Hid (SetS wr (w.heap.size + 1) ((ps.take k).map Prod.fst)) ∧ Hid (wr.heap[w.heap.size]? = some (.cells #[.string (St t), .string (St s), .slice A ps.length c] 25 (0, 0))) ∧ Hid (Below w.heap.size w wr) ∧ Hid (parB [] ps = parB ((ps.take k).map Prod.fst) (ps.drop k))) (fun s10 _ => ps.length - (intOf s10).toNat)
  case atStart => exact ⟨0, Nat.zero_le _, rfl, HS0, HF0, HB0, Lib.hid rfl⟩
  case round =>
    obtain ⟨k, hk, rfl, HS, HF, HB, HQ⟩ := hrel
    clear HS0 HF0 HB0
    by_cases hlt : k < ps.length
    · have hq := HQ.out
      rw [List.drop_eq_getElem_cons hlt, parB_step] at hq
      have hts := take_succ_at ps k hlt
      obtain ⟨ad, rfl, hx0, hx1⟩ := (HP.out.below HB.out).at_ k hlt
      have hp1 := HK.out.p1 ps[k] (List.getElem_mem hlt)
      have hp2 := HK.out.p2 ps[k] (List.getElem_mem hlt)
      generalize ps[k] = p at *
      obtain ⟨p1, p2⟩ := p
      simp only at hq hx0 hx1 hp1 hp2
      have HS1 := Lib.hid (fun W => small_any p1 W hp1.1 (Nat.le_trans hp1.2 (by omega)))
      have HS2 := Lib.hid (fun W => isValue_any p2 W hp2.1 (Nat.le_trans hp2.2 (by omega)))
      by_cases g1 : smallB p1 = true
      · rw [g1, Bool.true_and] at hq
        rw [g1] at HS1
        by_cases g2 : valueB p2 = true
        · rw [g2, Bool.true_and] at hq
          rw [g2] at HS2
          by_cases g3 : p1 ∈ (ps.take k).map Prod.fst
          · rw [decide_eq_true g3, Bool.not_true, Bool.false_and] at hq
            have HVV : Hid (V = false) := Lib.hid (by rw [HV.out, hq]; rfl)
            have HLK : Hid (∀ W, Below wr.heap.size wr W → (Instr.lookup 63 (.map (some (w.heap.size + 1))) (.string (St p1)) false).run Try.prog W = .ok (.bool true) W) := Lib.hid (fun W hW => by
              have h := (HS.out.below hW).lookup (P := Try.prog) Try.underlying63 Try.underlying9 p1 hp1.1 (zero_bool W)
              rwa [decide_eq_true g3] at h)
            clear hq hts g1 g2 g3 HQ hp1 hp2
            go_wp2_with (first
              | (go_at_call 37; ((with_reducible refine (HS1.out _).mono ?_); rintro e w1 ⟨rfl, hB⟩; have HB1 := Lib.hid (below_then (HB.out.alloc HB.out.size _) (HB.out.alloc HB.out.size _).size hB); have HPB := Lib.hid (blk_below (blk_new wr _) hB); have lk := HLK.out w1 (below_then ((Below.refl wr.heap.size wr).alloc (Nat.le_refl _) _) ((Below.refl wr.heap.size wr).alloc (Nat.le_refl _) _).size hB); have e0 : w1.cell? ⟨wr.heap.size, 0, none⟩ = some (.string (St p1)) := (blk_cell HPB.out 0).trans rfl; have e1 : w1.cell? ⟨wr.heap.size, 1, none⟩ = some (.string (St p2)) := (blk_cell HPB.out 1).trans rfl; clear hB))
              | (go_at_call 38; ((with_reducible refine (HS2.out _).mono ?_); rintro e w2 ⟨rfl, rfl⟩)))
            go_ret
            exact ⟨by rw [HVV.out]; rfl, HB1.out⟩
          · rw [decide_eq_false g3, Bool.not_false, Bool.true_and] at hq
            have hmap : (ps.take (k + 1)).map Prod.fst = (ps.take k).map Prod.fst ++ [p1] := by rw [hts, List.map_append]; rfl
            have HQ2 : Hid (parB [] ps = parB ((ps.take (k + 1)).map Prod.fst) (ps.drop (k + 1))) := Lib.hid (by rw [hq, hmap])
            have HLK : Hid (∀ W, Below wr.heap.size wr W → (Instr.lookup 63 (.map (some (w.heap.size + 1))) (.string (St p1)) false).run Try.prog W = .ok (.bool false) W ∧ ∃ o, (Instr.mapUpdate 63 (.map (some (w.heap.size + 1))) (.string (St p1)) (.bool true)).run Try.prog W = .ok () (Go.ChangeMaps.setBlock W (w.heap.size + 1) o) ∧ SetS (Go.ChangeMaps.setBlock W (w.heap.size + 1) o) (w.heap.size + 1) ((ps.take (k + 1)).map Prod.fst)) := Lib.hid (fun W hW => by
              have h := (HS.out.below hW).lookup (P := Try.prog) Try.underlying63 Try.underlying9 p1 hp1.1 (zero_bool W)
              rw [decide_eq_false g3] at h
              refine ⟨h, ?_⟩
              rw [hmap]
              exact (HS.out.below hW).push (P := Try.prog) Try.underlying63 Try.underlying9 p1 hp1.1 g3)
            clear hq hts g1 g2 g3 HQ hp1 hp2 hmap
            go_wp2_with (first
              | (go_at_call 37; ((with_reducible refine (HS1.out _).mono ?_); rintro e w1 ⟨rfl, hB⟩; have HB1 := Lib.hid (below_then (HB.out.alloc HB.out.size _) (HB.out.alloc HB.out.size _).size hB); have HPB := Lib.hid (blk_below (blk_new wr _) hB); have HBX := Lib.hid (blk_below (blk_alloc HF.out _) hB); have hlk := HLK.out w1 (below_then ((Below.refl wr.heap.size wr).alloc (Nat.le_refl _) _) ((Below.refl wr.heap.size wr).alloc (Nat.le_refl _) _).size hB); obtain ⟨lk, o1, mu, hS1⟩ := hlk; have HS3 := Lib.hid hS1; have e0 : w1.cell? ⟨wr.heap.size, 0, none⟩ = some (.string (St p1)) := (blk_cell HPB.out 0).trans rfl; have e1 : w1.cell? ⟨wr.heap.size, 1, none⟩ = some (.string (St p2)) := (blk_cell HPB.out 1).trans rfl; clear hB hS1))
              | (go_at_call 38; ((with_reducible refine (HS2.out _).mono ?_); rintro e w2 ⟨rfl, rfl⟩)))
            go_round
            case rel => exact ⟨k + 1, by omega, by go_num, HS3, Lib.hid (blk_setBlock HBX.out (by omega) _), Lib.hid (below_setBlock HB1.out (by omega) _), HQ2⟩
            case measure => simp [intOf]; omega
        · have g2' : valueB p2 = false := by simpa using g2
          rw [g2', Bool.false_and] at hq
          have HVV : Hid (V = false) := Lib.hid (by rw [HV.out, hq]; rfl)
          rw [g2'] at HS2
          clear hq hts g1 g2 g2' HQ hp1 hp2
          go_wp2_with (first
            | (go_at_call 37; ((with_reducible refine (HS1.out _).mono ?_); rintro e w1 ⟨rfl, hB⟩; have HB1 := Lib.hid (below_then (HB.out.alloc HB.out.size _) (HB.out.alloc HB.out.size _).size hB); have HPB := Lib.hid (blk_below (blk_new wr _) hB); have e0 : w1.cell? ⟨wr.heap.size, 0, none⟩ = some (.string (St p1)) := (blk_cell HPB.out 0).trans rfl; have e1 : w1.cell? ⟨wr.heap.size, 1, none⟩ = some (.string (St p2)) := (blk_cell HPB.out 1).trans rfl; clear hB))
            | (go_at_call 38; ((with_reducible refine (HS2.out _).mono ?_); rintro e w2 ⟨rfl, rfl⟩)))
          go_ret
          exact ⟨by rw [HVV.out]; rfl, HB1.out⟩
      · have g1' : smallB p1 = false := by simpa using g1
        rw [g1', Bool.false_and] at hq
        have HVV : Hid (V = false) := Lib.hid (by rw [HV.out, hq]; rfl)
        rw [g1'] at HS1
        clear hq hts g1 g1' HQ hp1 hp2
        go_wp2_with (first
          | (go_at_call 37; ((with_reducible refine (HS1.out _).mono ?_); rintro e w1 ⟨rfl, hB⟩; have HB1 := Lib.hid (below_then (HB.out.alloc HB.out.size _) (HB.out.alloc HB.out.size _).size hB); clear hB)))
        go_ret
        exact ⟨by rw [HVV.out]; rfl, HB1.out⟩
    · have hkn : k = ps.length := by omega
      have hq := HQ.out
      rw [hkn, List.drop_length, show ∀ q, parB q [] = true from fun q => by rw [parB]] at hq
      have hv : V = (smallB t && (smallB s && decide (ps.length ≤ 16))) := by rw [HV.out, hq, Bool.true_and]
      have q0 : wr.cell? ⟨w.heap.size, 0, none⟩ = some (.string (St t)) := (blk_cell HF.out 0).trans rfl
      have q1 : wr.cell? ⟨w.heap.size, 1, none⟩ = some (.string (St s)) := (blk_cell HF.out 1).trans rfl
      have q2 : wr.cell? ⟨w.heap.size, 2, none⟩ = some (.slice A ps.length c) := (blk_cell HF.out 2).trans rfl
      subst hkn
      clear hq HQ
      by_cases g1 : smallB t = true
      · rw [g1, Bool.true_and] at hv
        rw [g1] at HSt
        by_cases g2 : smallB s = true
        · rw [g2, Bool.true_and] at hv
          rw [g2] at HSs
          have hd : decide ((ps.length : Int) ≤ 16) = decide (ps.length ≤ 16) := by
            by_cases h : ps.length ≤ 16
            · rw [decide_eq_true h, decide_eq_true (by omega)]
            · rw [decide_eq_false h, decide_eq_false (by omega)]
          have HVV : Hid (V = decide ((ps.length : Int) ≤ 16)) := Lib.hid (by rw [hv, hd])
          clear hv hd g1 g2
          go_wp2_with (first
            | (go_at_call 37; ((with_reducible refine (HSt.out _).mono ?_); rintro e w1 ⟨rfl, hB⟩; have HB1 := Lib.hid (below_then HB.out HB.out.size hB); have HF1 := Lib.hid (blk_below HF.out hB); have r1 : w1.cell? ⟨w.heap.size, 1, none⟩ = some (.string (St s)) := (blk_cell HF1.out 1).trans rfl; clear hB))
            | (go_at_call 37; ((with_reducible refine (HSs.out _).mono ?_); rintro e w2 ⟨rfl, hB⟩; have HB2 := Lib.hid (below_then HB1.out HB1.out.size hB); have HF2 := Lib.hid (blk_below HF1.out hB); have r2 : w2.cell? ⟨w.heap.size, 2, none⟩ = some (.slice A ps.length c) := (blk_cell HF2.out 2).trans rfl; clear hB)))
          go_ret
          exact ⟨by rw [HVV.out]; rfl, HB2.out⟩
        · have g2' : smallB s = false := by simpa using g2
          rw [g2', Bool.false_and] at hv
          rw [g2'] at HSs
          have HVV := Lib.hid hv
          clear hv g1 g2 g2'
          go_wp2_with (first
            | (go_at_call 37; ((with_reducible refine (HSt.out _).mono ?_); rintro e w1 ⟨rfl, hB⟩; have HB1 := Lib.hid (below_then HB.out HB.out.size hB); have HF1 := Lib.hid (blk_below HF.out hB); have r1 : w1.cell? ⟨w.heap.size, 1, none⟩ = some (.string (St s)) := (blk_cell HF1.out 1).trans rfl; clear hB))
            | (go_at_call 37; ((with_reducible refine (HSs.out _).mono ?_); rintro e w2 ⟨rfl, hB⟩; have HB2 := Lib.hid (below_then HB1.out HB1.out.size hB); clear hB)))
          go_ret
          exact ⟨by rw [HVV.out]; rfl, HB2.out⟩
      · have g1' : smallB t = false := by simpa using g1
        rw [g1', Bool.false_and] at hv
        rw [g1'] at HSt
        have HVV := Lib.hid hv
        clear hv g1 g1'
        go_wp2_with (first
          | (go_at_call 37; ((with_reducible refine (HSt.out _).mono ?_); rintro e w1 ⟨rfl, hB⟩; have HB1 := Lib.hid (below_then HB.out HB.out.size hB); clear hB)))
        go_ret
        exact ⟨by rw [HVV.out]; rfl, HB1.out⟩
end Go.Proofs.Ytdnehnjcbdkgcaa
