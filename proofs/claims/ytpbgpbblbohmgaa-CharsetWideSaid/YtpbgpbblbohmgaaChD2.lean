/- charset: double. -/
import Derived.Test.YtpbgpbblbohmgaaChD
namespace Go.Proofs.Ytpbgpbblbohmgaa
open Go.RowKit Go.Proofs.YtpbgpbblbohmgaaW.PrintWords

/-- What is known where it goes wrong. -/
structure Wrong (w : World) (V : List Int × Int × Int) (a : Act) (w' : World) : Prop where
  ds : a.defers = []
  sz : a.tmps.size = 75
  s5 : a.tmps.getD 5 undef = .pointer (some ⟨w.heap.size, 0, none⟩)
  ex : ∃ n : Nat, a.tmps.getD 7 undef = .int .i64 n ∧ V = ([], (n : Int), 20)
  blk : w'.heap[w.heap.size]? = some (.cells #[.int .i64 0, .int .i64 0] 26 (0, 0))
  bel : Below w.heap.size w w'
theorem dbl_step (b : Bool) (f : Nat) (l : List Int) : dbl b (f + 1) l = if l.length = 0 then ([], none) else if l.length < 2 then ([], some 0) else
      if unitV l b < 55296 ∨ 57343 < unitV l b then joinD [unitV l b] 2 (dbl b f (l.drop 2)) else
      if 56320 ≤ unitV l b ∨ l.length < 4 then ([], some 0) else
      if unitV (l.drop 2) b < 56320 ∨ 57343 < unitV (l.drop 2) b then ([], some 0) else
      joinD [65536 + (unitV l b - 55296) * 1024 + (unitV (l.drop 2) b - 56320)] 4 (dbl b f (l.drop 4)) := rfl
theorem resV_wrong {b : Bool} {l acc : List Int} {n f : Nat} (h : dbl b l.length l = joinD acc n (dbl b (f + 1) (l.drop n))) (h1 : dbl b (f + 1) (l.drop n) = ([], some 0)) : resV (dbl b l.length l) = ([], (n : Int), 20) := by
  rw [h, h1]; simp [resV, joinD]
theorem unit_bel (A : Option Addr) (c : Nat) (l : List Int) (b : Bool) (w : World) (hr : ReadsInt w .u8 A l.length l) (hby : Bytes l) (hc : l.length ≤ c) (h2 : 2 ≤ l.length) :
    Calls Try.prog 45 #[.slice A l.length c, .bool b] w fun e w' => e = .returned (.int .i32 (unitV l b)) ∧ Below w.heap.size w w' :=
  (unit_any A c l b w hr hby hc h2).mono fun e w' ⟨h, n, hn⟩ => ⟨h, hn ▸ pw_below_drewN (Below.refl _ _) n⟩
theorem getD_set_ne (ts : Array Value) (i j : Nat) (v : Value) (h : i ≠ j) : (ts.setIfInBounds i v).getD j undef = ts.getD j undef := by
  simp [Array.getD_eq_getD_getElem?, Array.getElem?_setIfInBounds_ne h]
theorem getD_set_self (ts : Array Value) (i : Nat) (v : Value) (h : i < ts.size) : (ts.setIfInBounds i v).getD i undef = v := by
  simp [Array.getD_eq_getD_getElem?, h]
attribute [local go_sem] getD_set_ne getD_set_self Array.size_setIfInBounds
set_option maxRecDepth 100000 in
set_option maxHeartbeats 4000000 in
theorem double_any (b : Bool) (A : Option Addr) (l : List Int) (c : Nat) (w : World) (hr : ReadsInt w .u8 A l.length l) (hby : Bytes l) (hc : l.length ≤ c) (hl : l.length ≤ 35184372088832) :
    Calls Try.prog 34 #[.slice A l.length c, .bool b] w (PtsPost w (resV (dbl b l.length l))) := by
  have HR := Lib.hid hr
  have HBY := Lib.hid hby
  obtain ⟨V, hV⟩ : ∃ V, resV (dbl b l.length l) = V := ⟨_, rfl⟩
  rw [hV]
  have HV := Lib.hid hV
  clear hr hby hV
  go_enter Try.func34, Try.ntmps34
  go_wp2
  refine wp_scope_jumps 0 (Wrong w V) (fun _ _ => 0) (by rfl) ?_ ?_
  · go_wp2
    go_loopw [6, 7] (fun s6 s7 wr => ∃ (acc : List Int) (n f : Nat), n ≤ l.length ∧ s7 = .int .i64 n ∧ Hid (ORow .i32 21 wr w.heap.size s6 acc) ∧ Hid (wr.heap[w.heap.size]? = some (.cells #[.int .i64 0, .int .i64 0] 26 (0, 0))) ∧ Hid (Below w.heap.size w wr) ∧ Hid (dbl b l.length l = joinD acc n (dbl b f (l.drop n))) ∧ Hid (l.length - n ≤ f) ∧ Hid (acc.length ≤ n)) (fun _ s7 _ => l.length - (intOf s7).toNat)
    case atStart =>
      refine ⟨[], 0, l.length, Nat.zero_le _, rfl, Lib.hid (ORow.nil _ _ _ _), Lib.hid ?_, Lib.hid (below_first _), Lib.hid ?_, Lib.hid (by omega), Lib.hid (Nat.zero_le _)⟩
      · exact heap_alloc_new w _
      · simp [joinD]
    case round =>
      obtain ⟨acc, n, f, hn, rfl, HO, HF, HB, HD, Hf, HA⟩ := hrel
      have HW : wr.heap.size ≥ w.heap.size := HB.out.size
      by_cases hlt : n < l.length
      · obtain ⟨f, rfl⟩ : ∃ f', f = f' + 1 := ⟨f - 1, by have := Hf.out; omega⟩
        have HLD : Hid ((l.drop n).length = l.length - n) := Lib.hid List.length_drop
        have HST := Lib.hid (dbl_step b f (l.drop n))
        by_cases h2 : l.length - n < 2
        · have hV : V = ([], (n : Int), 20) := by
            rw [← HV.out]
            exact resV_wrong HD.out (by rw [HST.out, if_neg (by have := HLD.out; omega), if_pos (by have := HLD.out; omega)])
          have HVV := Lib.hid hV
          have d1 : decide ((l.length : Int) - (n : Int) < 2) = true := decide_eq_true (by omega)
          have hd2 : (l.length : Int) - (n : Int) < 2 := by omega
          clear hV h2
          go_wp2
          go_step3
          exact ⟨rfl, rfl, rfl, rfl, ⟨n, rfl, HVV.out⟩, HF.out, HB.out⟩
        · have hd2 : ¬ (l.length : Int) - (n : Int) < 2 := by omega
          obtain ⟨i0, hi0, _, hsz, _⟩ := info_parts infoU8
          obtain ⟨A1, hcut0, hA1, hC1⟩ := print_drop_of (P := Try.prog) (Value.int .u8) (0 : Int) 22 5 .i64 Try.underlying22 hi0 hsz A c l (n : Int) (by omega) (by omega) hc
          simp only [Int.toNat_natCast] at hcut0 hA1 hC1
          have HR1 := Lib.hid (hA1 _ (HR.out.below HB.out))
          have HBY1 := Lib.hid (HBY.out.drop n)
          have HQ : Hid (∀ m, l.drop (n + m) = (l.drop n).drop m) := Lib.hid fun m => by rw [List.drop_drop]
          have HQ2 : Hid (l.drop (n + 2) = (l.drop n).drop 2) := Lib.hid (by rw [List.drop_drop])
          have HR2 := Lib.hid (fun A2 c2 (h : ∀ (w : World) , ReadsOf (Value.int .u8) (0 : Int) w A l.length l → ReadsOf (Value.int .u8) (0 : Int) w A2 (l.drop (n + 2)).length (l.drop (n + 2))) (_ : (l.drop (n + 2)).length ≤ c2) => h)
          generalize hq : l.drop n = q at *
          have HQE := Lib.hid hq
          have hql : q.length = l.length - n := HLD.out
          have HU := Lib.hid (unitV_range HBY1.out b)
          have HUC := Lib.hid (unit_bel A1 _ q b wr HR1.out HBY1.out hC1 (by omega))
          clear hq hA1
          generalize hu : unitV q b = u at *
          have HUE := Lib.hid hu
          clear hu
          have hu0 := HU.out.1
          have hu1 := HU.out.2
          by_cases h3 : u < 55296 ∨ 57343 < u
          · have HD2 : Hid (dbl b l.length l = joinD (acc ++ [u]) (n + 2) (dbl b f (l.drop (n + 2)))) := Lib.hid (by
              rw [HD.out, HST.out, if_neg (by omega), if_neg (by omega), if_pos h3, joinD_joinD, HQ.out 2])
            have hnm : n + 2 ≤ l.length := by omega
            have h3' : u < 55296 ∨ (¬ u < 55296 ∧ 57343 < u) := by omega
            clear HD HST hql h3 hi0 hsz
            rcases h3' with h3 | ⟨h3, h4⟩
            all_goals
              go_wp2_with (first
                | (go_at_call 45; ((with_reducible refine HUC.out.mono ?_); rintro e w1 ⟨rfl, hB1⟩; have HF1 := Lib.hid (blk_below HF.out hB1); have HO1 := Lib.hid (HO.out.below hB1); have HB1 := Lib.hid (below_then HB.out HW hB1); have HW1 : w1.heap.size ≥ w.heap.size := HB1.out.size; clear hB1))
                | (at_builtin; refine print_append_num (w0 := w) w.heap.size rfl (.tmp 55) (.tmp 57) 32 21 .i32 4 rfl Try.underlying32 infoI32 (by decide) _ acc u rfl rfl HO1.out HB1.out HW1 (by have := HA.out; omega) ?_; intro v1 w2 hO2 hB2 hg2 _; have HO2 := Lib.hid hO2; have HB2 := Lib.hid hB2; have HF2 := Lib.hid ((hg2.block _ (blk_lt HF1.out) (own_ne HO1.out HF1.out (by decide))).trans HF1.out); clear hO2 hB2 hg2))
              go_roundw
              case rel => exact ⟨acc ++ [u], n + 2, f, hnm, by go_num, HO2, HF2, HB2, HD2, Lib.hid (by have := Hf.out; omega), Lib.hid (by have := HA.out; simp; omega)⟩
              case measure => simp [intOf]; omega
          · by_cases h4 : 56320 ≤ u ∨ l.length - n < 4
            · have hV : V = ([], (n : Int), 20) := by
                rw [← HV.out]
                refine resV_wrong (f := f) (by rw [HQE.out]; exact HD.out) ?_
                rw [HQE.out, HST.out, if_neg (by omega), if_neg (by omega), if_neg h3, if_pos (by omega)]
              have HVV := Lib.hid hV
              have h5 : ¬ u < 55296 := by omega
              have h6 : ¬ 57343 < u := by omega
              have h4' : 56320 ≤ u ∨ (¬ 56320 ≤ u ∧ (l.length : Int) - (n : Int) < 4) := by omega
              clear hV h3 h4 hql hi0 hsz
              rcases h4' with h4 | ⟨h4, h7⟩
              all_goals
                go_wp2_with (first
                  | (go_at_call 45; ((with_reducible refine HUC.out.mono ?_); rintro e w1 ⟨rfl, hB1⟩; have HF1 := Lib.hid (blk_below HF.out hB1); have HB1 := Lib.hid (below_then HB.out HW hB1); clear hB1)))
                go_step3
                exact ⟨rfl, rfl, rfl, rfl, ⟨n, rfl, HVV.out⟩, HF1.out, HB1.out⟩
            · have hn2 : n + 2 ≤ l.length := by omega
              obtain ⟨A2, hcut2, hA2, hC2⟩ := print_drop_of (P := Try.prog) (Value.int .u8) (0 : Int) 22 5 .i64 Try.underlying22 hi0 hsz A c l ((n : Int) + 2) (by omega) (by omega) hc
              rw [show ((n : Int) + 2).toNat = n + 2 by omega] at hcut2 hA2 hC2
              have HA2 := Lib.hid hA2
              have HBY2 := Lib.hid (HBY.out.drop (n + 2))
              rw [HQ2.out] at hcut2 hC2 HA2 HBY2
              have hq2l : (q.drop 2).length = l.length - n - 2 := by rw [List.length_drop, hql]
              generalize hq2 : q.drop 2 = q2 at *
              have HQ2E := Lib.hid hq2
              have HU2 := Lib.hid (unitV_range HBY2.out b)
              have HUC2 := Lib.hid (fun W (h : ReadsInt W .u8 A2 q2.length q2) => unit_bel A2 _ q2 b W h HBY2.out hC2 (by omega))
              clear hq2 hA2
              generalize hv : unitV q2 b = v at *
              have HVE := Lib.hid hv
              clear hv
              have hv0 := HU2.out.1
              have hv1 := HU2.out.2
              have h5 : ¬ u < 55296 := by omega
              have h6 : ¬ 57343 < u := by omega
              have h7 : ¬ 56320 ≤ u := by omega
              have h8 : ¬ (l.length : Int) - (n : Int) < 4 := by omega
              by_cases h9 : v < 56320 ∨ 57343 < v
              · have hV : V = ([], (n : Int), 20) := by
                  rw [← HV.out]
                  refine resV_wrong (f := f) (by rw [HQE.out]; exact HD.out) ?_
                  rw [HQE.out, HST.out, if_neg (by omega), if_neg (by omega), if_neg h3, if_neg (by omega), if_pos h9]
                have HVV := Lib.hid hV
                have h9' : v < 56320 ∨ (¬ v < 56320 ∧ 57343 < v) := by omega
                clear hV h3 h4 hql hi0 hsz hq2l h9
                rcases h9' with h9 | ⟨h9, h10⟩
                all_goals
                  go_wp2_with (first
                    | (go_at_call 45; ((with_reducible refine HUC.out.mono ?_); rintro e w1 ⟨rfl, hB1⟩; have HF1 := Lib.hid (blk_below HF.out hB1); have HB1 := Lib.hid (below_then HB.out HW hB1); have HW1 : w1.heap.size ≥ w.heap.size := HB1.out.size; have HRB : Hid (ReadsInt w1 .u8 A2 q2.length q2) := Lib.hid (HA2.out _ (HR.out.below HB1.out)); clear hB1))
                    | (go_at_call 45; ((with_reducible refine (HUC2.out _ HRB.out).mono ?_); rintro e w2 ⟨rfl, hB2⟩; have HF2 := Lib.hid (blk_below HF1.out hB2); have HB2 := Lib.hid (below_then HB1.out HW1 hB2); clear hB2)))
                  go_step3
                  exact ⟨rfl, rfl, rfl, rfl, ⟨n, rfl, HVV.out⟩, HF2.out, HB2.out⟩
              · have HD2 : Hid (dbl b l.length l = joinD (acc ++ [65536 + (u - 55296) * 1024 + (v - 56320)]) (n + 4) (dbl b f (l.drop (n + 4)))) := Lib.hid (by
                  rw [HD.out, HST.out, if_neg (by omega), if_neg (by omega), if_neg h3, if_neg (by omega), if_neg h9, joinD_joinD, HQ.out 4])
                have hnm : n + 4 ≤ l.length := by omega
                have h10 : ¬ v < 56320 := by omega
                have h11 : ¬ 57343 < v := by omega
                clear HD HST hql h3 h4 hq2l h9 hi0 hsz
                go_wp2_with (first
                  | (go_at_call 45; ((with_reducible refine HUC.out.mono ?_); rintro e w1 ⟨rfl, hB1⟩; have HF1 := Lib.hid (blk_below HF.out hB1); have HO1 := Lib.hid (HO.out.below hB1); have HB1 := Lib.hid (below_then HB.out HW hB1); have HW1 : w1.heap.size ≥ w.heap.size := HB1.out.size; have HRB : Hid (ReadsInt w1 .u8 A2 q2.length q2) := Lib.hid (HA2.out _ (HR.out.below HB1.out)); clear hB1))
                  | (go_at_call 45; ((with_reducible refine (HUC2.out _ HRB.out).mono ?_); rintro e w2 ⟨rfl, hB2⟩; have HF2 := Lib.hid (blk_below HF1.out hB2); have HO2 := Lib.hid (HO1.out.below hB2); have HB2 := Lib.hid (below_then HB1.out HW1 hB2); have HW2 : w2.heap.size ≥ w.heap.size := HB2.out.size; clear hB2))
                  | (at_builtin; refine print_append_num (w0 := w) w.heap.size rfl (.tmp 36) (.tmp 44) 32 21 .i32 4 rfl Try.underlying32 infoI32 (by decide) _ acc (65536 + (u - 55296) * 1024 + (v - 56320)) rfl rfl HO2.out HB2.out HW2 (by have := HA.out; omega) ?_; intro v1 w3 hO3 hB3 hg3 _; have HO3 := Lib.hid hO3; have HB3 := Lib.hid hB3; have HF3 := Lib.hid ((hg3.block _ (blk_lt HF2.out) (own_ne HO2.out HF2.out (by decide))).trans HF2.out); clear hO3 hB3 hg3))
                go_roundw
                case rel => exact ⟨acc ++ [_], n + 4, f, hnm, by go_num, HO3, HF3, HB3, HD2, Lib.hid (by have := Hf.out; omega), Lib.hid (by have := HA.out; simp; omega)⟩
                case measure => simp [intOf]; omega
      · have hnl : n = l.length := by omega
        have hV : V = (acc, 0, 0) := by
          have h1 : dbl b f (l.drop n) = ([], none) := by
            rw [hnl, List.drop_length]; cases f <;> simp [dbl]
          have h2 := HD.out
          rw [h1] at h2
          rw [← HV.out]
          simp [resV, h2, joinD]
        have HVV := Lib.hid hV
        clear hV HD
        have c0 : wr.cell? ⟨w.heap.size, 0, none⟩ = some (.int .i64 0) := (blk_cell HF.out 0).trans rfl
        have c1 : wr.cell? ⟨w.heap.size, 1, none⟩ = some (.int .i64 0) := (blk_cell HF.out 1).trans rfl
        have z0 := blk_frozen HF.out 0
        have z1 := blk_frozen HF.out 1
        clear hnl
        go_wp2
        have HF1 := blk_set (blk_set HF.out 0 (.int .i64 0)) 1 (.int .i64 0)
        refine bodyPost_ret (results_tc rfl _ _ _ _ _ _ _ rfl HF1 Try.underlying26 rfl (by kernel_rfl)) rfl ?_
        rw [HVV.out]
        exact ⟨_, rfl, (HO.out.set_ HF.out (by decide) 0 _).set_ (blk_set HF.out 0 _) (by decide) 1 _, below_set (below_set HB.out (Nat.le_refl _)) (Nat.le_refl _)⟩
  · rintro ⟨ts, df⟩ w' ⟨h1, h2, h5, ⟨n, h7, hV⟩, hF, hB⟩
    have HVV := Lib.hid hV
    have HF := Lib.hid hF
    have HB := Lib.hid hB
    have c0 : w'.cell? ⟨w.heap.size, 0, none⟩ = some (.int .i64 0) := (blk_cell hF 0).trans rfl
    have c1 : w'.cell? ⟨w.heap.size, 1, none⟩ = some (.int .i64 0) := (blk_cell hF 1).trans rfl
    have z0 := blk_frozen hF 0
    have z1 := blk_frozen hF 1
    clear hV hF hB
    replace h1 : df = [] := h1
    replace h2 : ts.size = 75 := h2
    have e5 : ts[5]'(by omega) = .pointer (some ⟨w.heap.size, 0, none⟩) := by
      have h := h5
      simpa [Array.getD_eq_getD_getElem?, Array.getElem?_eq_getElem (show 5 < ts.size by omega)] using h
    have e7 : ts[7]'(by omega) = .int .i64 n := by
      have h := h7
      simpa [Array.getD_eq_getD_getElem?, Array.getElem?_eq_getElem (show 7 < ts.size by omega)] using h
    go_wp2
    have HF1 := blk_set (blk_set HF.out 0 (.int .i64 (n : Int))) 1 (.int .i64 20)
    refine bodyPost_ret (results_tc (by rfl) _ _ _ _ _ _ _ ((getD_set_ne _ 4 5 _ (by decide)).trans ((getD_set_ne _ 74 5 _ (by decide)).trans ((getD_set_ne _ 73 5 _ (by decide)).trans h5))) HF1 Try.underlying26 rfl (by kernel_rfl)) rfl ?_
    rw [HVV.out]
    have e4 : (((ts.setIfInBounds 73 (.int .i64 (n : Int))).setIfInBounds 74 (.agg #[.int .i64 (n : Int), .int .i64 20])).setIfInBounds 4 (.slice none 0 0)).getD 4 undef = .slice none 0 0 := getD_set_self _ 4 _ (by simp [h2])
    exact ⟨_, congrArg (fun v => Ending.returned (.tuple #[v, .agg #[.int .i64 (n : Int), .int .i64 20]])) e4, ORow.nil _ _ _ _, below_set (below_set HB.out (Nat.le_refl _)) (Nat.le_refl _)⟩
end Go.Proofs.Ytpbgpbblbohmgaa
