/- The document's quoted: Decode. -/
import Derived.Test.YtdebimpjbcihhaaQRef3
namespace Go.Proofs.Ytdebimpjbcihhaa
open Go.RowKit Go.Proofs.YtdebimpjbcihhaaW.PrintWords

theorem add_at (b n : Nat) : (⟨b, 0, none⟩ : Addr).add n = ⟨b, n, none⟩ := by unfold Addr.add; split <;> simp_all
def DecPost (w : World) (r : List Int × Int × Int) (e : Ending) (w' : World) : Prop :=
  ∃ v, e = .returned (.tuple #[v, .agg #[.int .i64 r.2.1, .int .i64 r.2.2]]) ∧ ORow .u8 5 w' w.heap.size v r.1 ∧ Below w.heap.size w w'
set_option maxRecDepth 100000 in
set_option maxHeartbeats 4000000 in
theorem rdecode_any (s : ByteArray) (w : World) (hs : s.size ≤ 4194304) : Calls Try.prog 15 #[.string s] w (DecPost w (decK (bytesOf s))) := by
  have HL : Hid ((bytesOf s).length = s.size) := Lib.hid (bytesOf_length s)
  have kb := fun W => print_bytes (P := Try.prog) 9 22 5 Try.underlying9 Try.underlying22 Try.underlying5 s W
  have HV : Hid (decK (bytesOf s) = decQ (bytesOf s) s.size 0 []) := Lib.hid (by rw [decK, HL.out])
  generalize decK (bytesOf s) = V at *
  have HRB := Lib.hid (bytes_reads (w.alloc (.cells #[.int .i64 0, .int .i64 0] 30)) 5 s (by omega))
  have HBX0 := Lib.hid (blk_below (heap_alloc_new w (.cells #[.int .i64 0, .int .i64 0] 30)) (bytes_below (Below.refl _ _) (Nat.le_refl _) 5 s))
  have HWB := Lib.hid (bytes_below (below_first (w := w) (.cells #[.int .i64 0, .int .i64 0] 30)) (below_first (w := w) (.cells #[.int .i64 0, .int .i64 0] 30)).size 5 s)
  have HA1 : Hid ((w.alloc (.cells #[.int .i64 0, .int .i64 0] 30)).heap.size = w.heap.size + 1) := Lib.hid (by simp [World.alloc_eq])
  rw [HA1.out] at HRB
  have hcap : s.size ≤ grownCap (w.alloc (.cells #[.int .i64 0, .int .i64 0] 30)) s.size 0 5 := grownCap_ge _ _ _ _
  go_enter Try.func15, Try.ntmps15
  go_wp2
  clear kb
  generalize grownCap (w.alloc (.cells #[.int .i64 0, .int .i64 0] 30)) s.size 0 5 = cap at *
  generalize Lib.bytesWorld (w.alloc (.cells #[.int .i64 0, .int .i64 0] 30)) 5 s = wb at *
  clear HA1
  generalize w.heap.size + 1 = bb at *
  have HBY := Lib.hid (bytesOf_bytes s)
  generalize bytesOf s = l at *
  have HBT : Hid (w.heap.size < wb.heap.size) := Lib.hid (blk_lt HBX0.out)
  go_loopw [5, 6] (fun s5 s6 wr => ∃ (out : List Int) (i f : Nat), i ≤ s.size ∧ s6 = .int .i64 i ∧ Hid (ORow .u8 5 wr wb.heap.size s5 out) ∧ Hid (Below wb.heap.size wb wr) ∧ Hid (V = decQ l f i out) ∧ Hid (s.size - i ≤ f) ∧ Hid (out.length ≤ 2 * i)) (fun _ s6 _ => s.size - (intOf s6).toNat)
  case atStart => exact ⟨[], 0, s.size, Nat.zero_le _, rfl, Lib.hid (ORow.nil _ _ _ _), Lib.hid (Below.refl _ _), HV, Lib.hid (by omega), Lib.hid (Nat.zero_le _)⟩
  case round =>
    obtain ⟨out, i, f, hi, rfl, HO, HW, HE, Hf, HA⟩ := hrel
    have hbx := blk_below HBX0.out HW.out
    have HBX := Lib.hid hbx
    have c0 : wr.cell? ⟨w.heap.size, 0, none⟩ = some (.int .i64 0) := (blk_cell hbx 0).trans rfl
    have c1 : wr.cell? ⟨w.heap.size, 1, none⟩ = some (.int .i64 0) := (blk_cell hbx 1).trans rfl
    have z0 := blk_frozen hbx 0
    have z1 := blk_frozen hbx 1
    have HRW := Lib.hid (HRB.out.below HW.out)
    have HWT := Lib.hid (below_then HWB.out HWB.out.size HW.out)
    clear hbx
    by_cases hlt : i < s.size
    · obtain ⟨f, rfl⟩ : ∃ g, f = g + 1 := ⟨f - 1, by have := Hf.out; omega⟩
      have hcell : wr.cell? ⟨bb, i, none⟩ = some (.int .u8 (rd l (i : Int))) := by
        obtain ⟨ad, he, hc⟩ := HRW.out.at_ (i : Int) (by omega) (by omega)
        cases he; rw [Int.toNat_natCast] at hc; rwa [show (⟨bb, 0, none⟩ : Addr).add _ = ⟨bb, _, none⟩ from add_at bb _] at hc
      have hcell1 : i + 1 < s.size → wr.cell? ⟨bb, i + 1, none⟩ = some (.int .u8 (rd l ((i + 1 : Nat) : Int))) := by
        intro h
        obtain ⟨ad, he, hc⟩ := HRW.out.at_ ((i + 1 : Nat) : Int) (by omega) (by omega)
        cases he; rw [Int.toNat_natCast] at hc; rwa [show (⟨bb, 0, none⟩ : Addr).add _ = ⟨bb, _, none⟩ from add_at bb _] at hc
      have hcell2 : i + 2 < s.size → wr.cell? ⟨bb, i + 2, none⟩ = some (.int .u8 (rd l ((i + 2 : Nat) : Int))) := by
        intro h
        obtain ⟨ad, he, hc⟩ := HRW.out.at_ ((i + 2 : Nat) : Int) (by omega) (by omega)
        cases he; rw [Int.toNat_natCast] at hc; rwa [show (⟨bb, 0, none⟩ : Addr).add _ = ⟨bb, _, none⟩ from add_at bb _] at hc
      have HC1 := Lib.hid hcell1
      have HC2 := Lib.hid hcell2
      have HPR := Lib.hid (fun (j : Int) (W : World) (h : Below wr.heap.size wr W) (h0 : 0 ≤ j) (h1 : j ≤ 9000000000000000000) => rpair_any (some ⟨bb, 0, none⟩) cap l j W (by have h9 := HRW.out.below h; rw [← HL.out] at h9; exact h9) (by rw [HL.out]; exact hcap) h0 h1 (by rw [HL.out]; omega))
      have HTR := Lib.hid (fun (W : World) (h : Below wr.heap.size wr W) => rtrailing_any (some ⟨bb, 0, none⟩) cap i l W (by have h9 := HRW.out.below h; rw [← HL.out] at h9; exact h9) (by rw [HL.out]; exact hcap) (by rw [HL.out]; omega) (by rw [HL.out]; omega))
      rw [HL.out] at HPR HTR
      have HSTEP := Lib.hid (HE.out)
      have hx := HBY.out.rd i
      have HX1 := Lib.hid (HBY.out.rd (i + 1))
      have HX2 := Lib.hid (HBY.out.rd (i + 2))
      clear hcell1 hcell2 HE
      go_upto_region 8 with (fail)
      go_cut [21] (fun s21 wx => s21 = .bool (prs l i) ∧ Hid (Below wr.heap.size wr wx))
      case first =>
        have HP := Lib.hid (HPR.out (i : Int) wr (Below.refl _ _) (by omega) (by omega))
        generalize prs l i = pv at *
        go_wp2_with (first | (go_at_call 16; ((with_reducible refine HP.out.mono ?_); rintro e w1 ⟨rfl, hD1⟩; have HD1 := Lib.hid hD1.below; clear hD1)))
        go_meet
        exact ⟨rfl, HD1⟩
      case rest =>
        obtain ⟨rfl, HX⟩ := hcut
        have HO1 := Lib.hid (HO.out.below HX.out)
        have HW1 := Lib.hid (below_then HW.out HW.out.size HX.out)
        have HWT1 := Lib.hid (below_then HWT.out HWT.out.size HX.out)
        have hbx := blk_below HBX.out HX.out
        have HBX1 := Lib.hid hbx
        have e0 : wc.cell? ⟨w.heap.size, 0, none⟩ = some (.int .i64 0) := (blk_cell hbx 0).trans rfl
        have e1 : wc.cell? ⟨w.heap.size, 1, none⟩ = some (.int .i64 0) := (blk_cell hbx 1).trans rfl
        have y0 := blk_frozen hbx 0
        have y1 := blk_frozen hbx 1
        have hce : wc.cell? ⟨bb, i, none⟩ = some (.int .u8 (rd l (i : Int))) := pw_cell_below HX.out hcell
        clear hbx c0 c1 z0 z1 hcell
        rcases hp : prs l i with _ | _
        · have HG : Hid (∀ W, Below wr.heap.size wr W → (i + 1 < s.size → W.cell? ⟨bb, i + 1, none⟩ = some (.int .u8 (rd l ((i + 1 : Nat) : Int)))) ∧ (i + 2 < s.size → W.cell? ⟨bb, i + 2, none⟩ = some (.int .u8 (rd l ((i + 2 : Nat) : Int)))) ∧
              W.cell? ⟨w.heap.size, 0, none⟩ = some (.int .i64 0) ∧ W.cell? ⟨w.heap.size, 1, none⟩ = some (.int .i64 0) ∧ W.frozen? ⟨w.heap.size, 0, none⟩ = false ∧ W.frozen? ⟨w.heap.size, 1, none⟩ = false ∧
              Hid (W.heap[w.heap.size]? = some (.cells #[.int .i64 0, .int .i64 0] 30 (0, 0))) ∧ Hid (ORow .u8 5 W wb.heap.size u5 out) ∧ Hid (Below wb.heap.size wb W) ∧ Hid (Below w.heap.size w W)) := Lib.hid (fun W h => by
            have hb := blk_below HBX.out h
            exact ⟨fun h1 => pw_cell_below h (HC1.out h1), fun h2 => pw_cell_below h (HC2.out h2), (blk_cell hb 0).trans rfl, (blk_cell hb 1).trans rfl, blk_frozen hb 0, blk_frozen hb 1, Lib.hid hb, Lib.hid (HO.out.below h), Lib.hid (below_then HW.out HW.out.size h), Lib.hid (below_then HWT.out HWT.out.size h)⟩)
          have HST2 : Hid (V = if rd l i = 61 then
              (if prs l ((i + 1 : Nat) : Int) = true then decQ l f (i + 3) out
               else if l.length ≤ i + 2 ∨ hv (rd l ((i + 1 : Nat) : Int)) < 0 ∨ hv (rd l ((i + 2 : Nat) : Int)) < 0 then ([], i, 3)
               else decQ l f (i + 3) (out ++ [16 * hv (rd l ((i + 1 : Nat) : Int)) + hv (rd l ((i + 2 : Nat) : Int))]))
            else if rd l i ≠ 9 ∧ (rd l i < 32 ∨ 126 < rd l i) then ([], i, 10)
            else if trl l i = true then decQ l f (i + 1) out
            else decQ l f (i + 1) (out ++ [rd l i])) := Lib.hid (by rw [HSTEP.out, decQ, if_neg (by have := HL.out; omega), if_neg (by rw [hp]; decide)])
          clear HSTEP hp HC1 HC2
          by_cases h61 : rd l (i : Int) = 61
          · rw [h61] at hce
            have HST3 := Lib.hid (HST2.out.trans (by rw [if_pos h61]))
            have HP1 := Lib.hid (HPR.out ((i : Int) + 1) wc HX.out (by omega) (by omega))
            rw [show ((i : Int) + 1) = ((i + 1 : Nat) : Int) by omega] at HP1
            clear HST2 h61 hx
            rcases hp1 : prs l ((i + 1 : Nat) : Int) with _ | _
            · rw [hp1] at HP1
              rw [show (((i + 1 : Nat) : Int)) = (i : Int) + 1 by omega] at HP1
              have HST4 := Lib.hid (HST3.out.trans (by rw [if_neg (by rw [hp1]; decide)]))
              clear HST3 hp1
              clear e0 e1 y0 y1
              by_cases hlen : i + 2 < s.size
              · have hr1 := hv_range (rd l ((i + 1 : Nat) : Int))
                have hr2 := hv_range (rd l ((i + 2 : Nat) : Int))
                have hb1 := HX1.out
                have hb2 := HX2.out
                have HV1 := Lib.hid (fun W => rvalue_any (rd l ((i + 1 : Nat) : Int)) W hb1.1 hb1.2)
                have HV2' := Lib.hid (fun W => rvalue_any (rd l ((i + 2 : Nat) : Int)) W hb2.1 hb2.2)
                have b1 : wb.cell? ⟨bb, i + 1, none⟩ = some (.int .u8 (rd l ((i + 1 : Nat) : Int))) := by
                  obtain ⟨ad, he, hc⟩ := HRB.out.at_ ((i + 1 : Nat) : Int) (by omega) (by omega)
                  cases he; rw [Int.toNat_natCast] at hc; rwa [show (⟨bb, 0, none⟩ : Addr).add _ = ⟨bb, _, none⟩ from add_at bb _] at hc
                have b2 : wb.cell? ⟨bb, i + 2, none⟩ = some (.int .u8 (rd l ((i + 2 : Nat) : Int))) := by
                  obtain ⟨ad, he, hc⟩ := HRB.out.at_ ((i + 2 : Nat) : Int) (by omega) (by omega)
                  cases he; rw [Int.toNat_natCast] at hc; rwa [show (⟨bb, 0, none⟩ : Addr).add _ = ⟨bb, _, none⟩ from add_at bb _] at hc
                generalize rd l ((i + 1 : Nat) : Int) = ca at *
                generalize rd l ((i + 2 : Nat) : Int) = cb at *
                generalize hv ca = va at *
                generalize hv cb = vb at *
                clear hb1 hb2
                go_wp2_with (first
                  | (go_at_call 16; ((with_reducible refine HP1.out.mono ?_); rintro e w1 ⟨rfl, hD1⟩; have HXw := Lib.hid (below_then HX.out HX.out.size hD1.below); obtain ⟨hc1, hc2, e0, e1, y0, y1, HBXw, HOw, HWw, HWTw⟩ := HG.out _ HXw.out; have d1 := hc1 (by omega); have d2 := hc2 hlen; clear hD1 hc1 hc2)))
                rcases hr1 with rfl | ⟨hr1, hr1'⟩
                · have HV2 : Hid (V = ([], (i : Int), 3)) := Lib.hid (HST4.out.trans (by rw [if_pos (.inr (.inl (by decide)))]))
                  clear HST4
                  go_wp2_with (first
                    | (go_at_call 26; ((with_reducible refine (HV1.out _).mono ?_); rintro e w3 ⟨rfl, hD3⟩; have HX3 := Lib.hid (below_then HXw.out HXw.out.size hD3.below); obtain ⟨hc1, hc2, f0, f1, g0, g1, HBX3, HO3, HW3, HWT3⟩ := HG.out _ HX3.out; clear hD3 hc1 hc2)))
                  have HF1 := blk_set (blk_set HBX3.out 0 (.int .i64 (i : Int))) 1 (.int .i64 3)
                  refine bodyPost_ret (results_tc rfl _ _ _ _ _ _ _ rfl HF1 Try.underlying30 rfl (by kernel_rfl)) rfl ?_
                  rw [HV2.out]
                  exact ⟨_, rfl, ORow.nil _ _ _ _, below_set (below_set HWT3.out (Nat.le_refl _)) (Nat.le_refl _)⟩
                · rcases hr2 with rfl | ⟨hr2, hr2'⟩
                  · have HV2 : Hid (V = ([], (i : Int), 3)) := Lib.hid (HST4.out.trans (by rw [if_pos (.inr (.inr (by decide)))]))
                    clear HST4
                    go_wp2_with (first
                      | (go_at_call 26; ((with_reducible refine (HV1.out _).mono ?_); rintro e w3 ⟨rfl, hD3⟩; have HX3 := Lib.hid (below_then HXw.out HXw.out.size hD3.below); obtain ⟨hc1, hc2, f0, f1, g0, g1, HBX3, HO3, HW3, HWT3⟩ := HG.out _ HX3.out; have d4 := hc2 hlen; clear hD3 hc1 hc2))
                      | (go_at_call 26; ((with_reducible refine (HV2'.out _).mono ?_); rintro e w4 ⟨rfl, hD4⟩; have HX4 := Lib.hid (below_then HX3.out HX3.out.size hD4.below); obtain ⟨hc1, hc2, i0, i1, j0, j1, HBX4, HO4, HW4, HWT4⟩ := HG.out _ HX4.out; clear hD4 hc1 hc2)))
                    have HF1 := blk_set (blk_set HBX4.out 0 (.int .i64 (i : Int))) 1 (.int .i64 3)
                    refine bodyPost_ret (results_tc rfl _ _ _ _ _ _ _ rfl HF1 Try.underlying30 rfl (by kernel_rfl)) rfl ?_
                    rw [HV2.out]
                    exact ⟨_, rfl, ORow.nil _ _ _ _, below_set (below_set HWT4.out (Nat.le_refl _)) (Nat.le_refl _)⟩
                  · go_wp2_with (first
                      | (go_at_call 26; ((with_reducible refine (HV1.out _).mono ?_); rintro e w3 ⟨rfl, hD3⟩; have HX3 := Lib.hid (below_then HXw.out HXw.out.size hD3.below); obtain ⟨hc1, hc2, f0, f1, g0, g1, HBX3, HO3, HW3, HWT3⟩ := HG.out _ HX3.out; have d4 := hc2 hlen; clear hD3 hc1 hc2))
                      | (go_at_call 26; ((with_reducible refine (HV2'.out _).mono ?_); rintro e w4 ⟨rfl, hD4⟩; have HX4 := Lib.hid (below_then HX3.out HX3.out.size hD4.below); obtain ⟨hc1, hc2, i0, i1, j0, j1, HBX4, HO4, HW4, HWT4⟩ := HG.out _ HX4.out; have d5 := hc1 (by omega); have d6 := hc2 hlen; clear hD4 hc1 hc2)))
                    have k1 : IntKind.i64.wrap ((i : Int) + 1) = (i : Int) + 1 := IntWalk.i64_in _ (by omega)
                    have k2 : IntKind.i64.wrap ((i : Int) + 2) = (i : Int) + 2 := IntWalk.i64_in _ (by omega)
                    have k3 : IntKind.i64.wrap (16 * va) = 16 * va := IntWalk.i64_in _ (by omega)
                    have k4 : IntKind.i64.wrap (16 * va + vb) = 16 * va + vb := IntWalk.i64_in _ (by omega)
                    have k5 : IntKind.u8.wrap (16 * va + vb) = 16 * va + vb := IntWalk.u8_in _ (by omega)
                    have HST5 : Hid (V = decQ l f (i + 3) (out ++ [16 * va + vb])) := Lib.hid (HST4.out.trans (by rw [if_neg (by have := HL.out; omega)]))
                    have HLB : Hid ((out.length + 1) * 1 ≤ 140737488355328) := Lib.hid (by have := HA.out; omega)
                    have hi3 : i + 3 ≤ s.size := hlen
                    clear HST4
                    have m1 : (0 : Int) ≤ (i : Int) + 1 := by omega
                    have m2 : (0 : Int) ≤ (i : Int) + 2 := by omega
                    have m3 : (i : Int) + 1 < (s.size : Int) := by omega
                    have m4 : (i : Int) + 2 < (s.size : Int) := by omega
                    have m5 : ((i : Int) + 1).toNat = i + 1 := by omega
                    have m6 : ((i : Int) + 2).toNat = i + 2 := by omega
                    go_region_held3 (fun w' => w'.cell? ⟨bb, i + 1, none⟩ = some (.int .u8 ca) ∧ w'.cell? ⟨bb, i + 2, none⟩ = some (.int .u8 cb))
                      (first | go_keep | exact ⟨pw_cell_below hB5 b1, pw_cell_below hB5 b2⟩)
                      (first
                        | (go_at_call 26; ((with_reducible refine (HV1.out _).mono ?_); rintro e w3 ⟨rfl, nn, rfl⟩))
                        | (go_at_call 26; ((with_reducible refine (HV2'.out _).mono ?_); rintro e w4 ⟨rfl, nn, rfl⟩))
                        | (refine step_append_cells (w0 := wb) wb.heap.size (by rfl) _ _ 22 5 (.int .u8 0) 1 1 (by rfl) Try.underlying22 infoU8 (by rfl) (by decide) (by decide) u5 out.length (nums .u8 out) [.int .u8 (16 * va + vb)] (by rfl) (by rfl) (by rfl) (by simp [Value.oneCell']) HO4.out (pw_below_drewN HW4.out _) HW4.out.size HLB.out ?_; intro v5 w5 hO5 hB5 _ _))
                    clear k1 k2 k3 k4 k5 m5 m6
                    have HO5 : Hid (ORow .u8 5 w5 wb.heap.size v5 (out ++ [16 * va + vb])) := Lib.hid (by unfold ORow; rw [List.length_append, nums_append]; exact hO5)
                    have HW5 := Lib.hid hB5
                    clear hO5 hB5
                    go_wp2
                    go_roundw
                    case rel => exact ⟨_, i + 3, f, hi3, by go_num, HO5, HW5, HST5, Lib.hid (by have := Hf.out; omega), Lib.hid (by have := HA.out; simp; omega)⟩
                    case measure => simp [intOf]; omega
              · have HV2 : Hid (V = ([], (i : Int), 3)) := Lib.hid (HST4.out.trans (by rw [if_pos (.inl (by have := HL.out; omega))]))
                clear HST4
                go_wp2_with (first | (go_at_call 16; ((with_reducible refine HP1.out.mono ?_); rintro e w1 ⟨rfl, hD1⟩; have HXw := Lib.hid (below_then HX.out HX.out.size hD1.below); obtain ⟨hc1, hc2, e0, e1, y0, y1, HBXw, HOw, HWw, HWTw⟩ := HG.out _ HXw.out; clear hD1 hc1 hc2)))
                have HF1 := blk_set (blk_set HBXw.out 0 (.int .i64 (i : Int))) 1 (.int .i64 3)
                refine bodyPost_ret (results_tc rfl _ _ _ _ _ _ _ rfl HF1 Try.underlying30 rfl (by kernel_rfl)) rfl ?_
                rw [HV2.out]
                exact ⟨_, rfl, ORow.nil _ _ _ _, below_set (below_set HWTw.out (Nat.le_refl _)) (Nat.le_refl _)⟩
            · rw [hp1] at HP1
              rw [show (((i + 1 : Nat) : Int)) = (i : Int) + 1 by omega] at HP1
              have HI3 : Hid (i + 3 ≤ s.size) := Lib.hid (by
                have h9 := hp1
                simp only [prs, decide_eq_true_eq] at h9
                have := HL.out
                omega)
              have hi3 := HI3.out
              have HST4 : Hid (V = decQ l f (i + 3) out) := Lib.hid (HST3.out.trans (by rw [if_pos hp1]))
              clear HST3 hp1
              clear e0 e1 y0 y1
              go_wp2_with (first | (go_at_call 16; ((with_reducible refine HP1.out.mono ?_); rintro e w1 ⟨rfl, hD1⟩; have HXw := Lib.hid (below_then HX.out HX.out.size hD1.below); obtain ⟨hc1, hc2, e0, e1, y0, y1, HBXw, HOw, HWw, HWTw⟩ := HG.out _ HXw.out; clear hD1 hc1 hc2)))
              go_roundw
              case rel => exact ⟨out, i + 3, f, hi3, by go_num, HOw, HWw, HST4, Lib.hid (by have := Hf.out; omega), Lib.hid (by have := HA.out; omega)⟩
              case measure => simp [intOf]; omega
          · have HX0 := Lib.hid (HBY.out.rd i)
            have HTR1 := Lib.hid (HTR.out wc HX.out)
            have g61 : (rd l (i : Int) == 61) = false := beq_eq_false_iff_ne.mpr h61
            generalize hcx : rd l (i : Int) = cx at *
            have HCX := Lib.hid hcx
            clear hcx
            by_cases hbad : cx ≠ 9 ∧ (cx < 32 ∨ 126 < cx)
            · have HV2 : Hid (V = ([], (i : Int), 10)) := Lib.hid (HST2.out.trans (by rw [if_neg h61, if_pos hbad]))
              have b9 : (cx != 9) = true := bne_iff_ne.mpr hbad.1
              have HBAD := hbad.2
              clear HST2 h61 hbad
              rcases HBAD with hlo | hhi
              · go_wp2
                have HF1 := blk_set (blk_set HBX1.out 0 (.int .i64 (i : Int))) 1 (.int .i64 10)
                refine bodyPost_ret (results_tc rfl _ _ _ _ _ _ _ rfl HF1 Try.underlying30 rfl (by kernel_rfl)) rfl ?_
                rw [HV2.out]
                exact ⟨_, rfl, ORow.nil _ _ _ _, below_set (below_set HWT1.out (Nat.le_refl _)) (Nat.le_refl _)⟩
              · have hhi2 : ¬ cx < 32 := by omega
                go_wp2
                have HF1 := blk_set (blk_set HBX1.out 0 (.int .i64 (i : Int))) 1 (.int .i64 10)
                refine bodyPost_ret (results_tc rfl _ _ _ _ _ _ _ rfl HF1 Try.underlying30 rfl (by kernel_rfl)) rfl ?_
                rw [HV2.out]
                exact ⟨_, rfl, ORow.nil _ _ _ _, below_set (below_set HWT1.out (Nat.le_refl _)) (Nat.le_refl _)⟩
            · have HST3 : Hid (V = if trl l i = true then decQ l f (i + 1) out else decQ l f (i + 1) (out ++ [cx])) := Lib.hid (HST2.out.trans (by rw [if_neg h61, if_neg hbad]))
              have hok : cx = 9 ∨ (32 ≤ cx ∧ cx ≤ 126 ∧ cx ≠ 9) := by omega
              have hi1 : i + 1 ≤ s.size := hlt
              clear HST2 h61 hbad
              rcases htl : trl l i with _ | _
              · rw [htl] at HTR1
                have HST4 : Hid (V = decQ l f (i + 1) (out ++ [cx])) := Lib.hid (HST3.out.trans (by rw [htl, if_neg (by decide)]))
                have HLB : Hid ((out.length + 1) * 1 ≤ 140737488355328) := Lib.hid (by have := HA.out; omega)
                clear HST3 htl
                rcases hok with rfl | ⟨hk1, hk2, hk3⟩
                · go_wp2_with (first
                    | (go_at_call 27; ((with_reducible refine HTR1.out.mono ?_); rintro e w1 ⟨rfl, hD1⟩; have HXw := Lib.hid (below_then HX.out HX.out.size hD1.below); obtain ⟨hc1, hc2, f0, f1, z0, z1, HBXw, HOw, HWw, HWTw⟩ := HG.out _ HXw.out; have HO2 := Lib.hid (HOw.out.alloc (.cells #[.int .u8 9] 5)); have HW3 := Lib.hid (below_alloc HWw.out (.cells #[.int .u8 9] 5)); have HLT := Lib.hid (lit_reads .u8 5 w1 [9] #[.int .u8 9] 1 w1.heap.size rfl rfl rfl (by simp)); have q0 := pw_cell_below hD1.below hce; clear hD1 hc1 hc2))
                    | (at_builtin; refine print_append_row (w0 := wb) wb.heap.size rfl (.tmp 108) (.tmp 113) 22 5 .u8 1 rfl Try.underlying22 infoU8 (by decide) _ out [9] _ _ _ rfl rfl HO2.out HLT.out HW3.out HW3.out.size HLB.out ?_; intro v4 w4 hO4 hb4 _ _; have HO4 : Hid (ORow .u8 5 w4 wb.heap.size v4 (out ++ [9])) := Lib.hid hO4; have HW4 := Lib.hid hb4; clear hO4 hb4))
                  go_roundw
                  case rel => exact ⟨_, i + 1, f, hi1, by go_num, HO4, HW4, HST4, Lib.hid (by have := Hf.out; omega), Lib.hid (by have := HA.out; simp; omega)⟩
                  case measure => simp [intOf]; omega
                · have b9 : (cx != 9) = true := bne_iff_ne.mpr hk3
                  clear hk3
                  go_wp2_with (first
                    | (go_at_call 27; ((with_reducible refine HTR1.out.mono ?_); rintro e w1 ⟨rfl, hD1⟩; have HXw := Lib.hid (below_then HX.out HX.out.size hD1.below); obtain ⟨hc1, hc2, f0, f1, z0, z1, HBXw, HOw, HWw, HWTw⟩ := HG.out _ HXw.out; have HO2 := Lib.hid (HOw.out.alloc (.cells #[.int .u8 cx] 5)); have HW3 := Lib.hid (below_alloc HWw.out (.cells #[.int .u8 cx] 5)); have HLT := Lib.hid (lit_reads .u8 5 w1 [cx] #[.int .u8 cx] 1 w1.heap.size rfl rfl rfl (by simp)); have q0 := pw_cell_below hD1.below hce; clear hD1 hc1 hc2))
                    | (at_builtin; refine print_append_row (w0 := wb) wb.heap.size rfl (.tmp 108) (.tmp 113) 22 5 .u8 1 rfl Try.underlying22 infoU8 (by decide) _ out [cx] _ _ _ rfl rfl HO2.out HLT.out HW3.out HW3.out.size HLB.out ?_; intro v4 w4 hO4 hb4 _ _; have HO4 : Hid (ORow .u8 5 w4 wb.heap.size v4 (out ++ [cx])) := Lib.hid hO4; have HW4 := Lib.hid hb4; clear hO4 hb4))
                  go_roundw
                  case rel => exact ⟨_, i + 1, f, hi1, by go_num, HO4, HW4, HST4, Lib.hid (by have := Hf.out; omega), Lib.hid (by have := HA.out; simp; omega)⟩
                  case measure => simp [intOf]; omega
              · rw [htl] at HTR1
                have HST4 : Hid (V = decQ l f (i + 1) out) := Lib.hid (HST3.out.trans (by rw [htl, if_pos rfl]))
                clear HST3 htl
                rcases hok with rfl | ⟨hk1, hk2, hk3⟩
                · go_wp2_with (first
                    | (go_at_call 27; ((with_reducible refine HTR1.out.mono ?_); rintro e w1 ⟨rfl, hD1⟩; have HXw := Lib.hid (below_then HX.out HX.out.size hD1.below); obtain ⟨hc1, hc2, f0, f1, z0, z1, HBXw, HOw, HWw, HWTw⟩ := HG.out _ HXw.out; clear hD1 hc1 hc2)))
                  go_roundw
                  case rel => exact ⟨out, i + 1, f, hi1, by go_num, HOw, HWw, HST4, Lib.hid (by have := Hf.out; omega), Lib.hid (by have := HA.out; omega)⟩
                  case measure => simp [intOf]; omega
                · have b9 : (cx != 9) = true := bne_iff_ne.mpr hk3
                  clear hk3
                  go_wp2_with (first
                    | (go_at_call 27; ((with_reducible refine HTR1.out.mono ?_); rintro e w1 ⟨rfl, hD1⟩; have HXw := Lib.hid (below_then HX.out HX.out.size hD1.below); obtain ⟨hc1, hc2, f0, f1, z0, z1, HBXw, HOw, HWw, HWTw⟩ := HG.out _ HXw.out; clear hD1 hc1 hc2)))
                  go_roundw
                  case rel => exact ⟨out, i + 1, f, hi1, by go_num, HOw, HWw, HST4, Lib.hid (by have := Hf.out; omega), Lib.hid (by have := HA.out; omega)⟩
                  case measure => simp [intOf]; omega
        · have HI2 : Hid (i + 2 ≤ s.size) := Lib.hid (by
            have h9 := hp
            simp only [prs, decide_eq_true_eq] at h9
            have := HL.out
            omega)
          have hi2 := HI2.out
          have HST3 : Hid (V = decQ l f (i + 2) (out ++ [13, 10])) := Lib.hid (by rw [HSTEP.out, decQ, if_neg (by have := HL.out; omega), if_pos hp])
          have HLB : Hid ((out.length + 2) * 1 ≤ 140737488355328) := Lib.hid (by have := HA.out; omega)
          have HA3 : Hid ((out ++ [13, 10]).length ≤ 2 * (i + 2)) := Lib.hid (by have := HA.out; simp; omega)
          have HO2 := Lib.hid (HO1.out.alloc (.cells #[.int .u8 13, .int .u8 10] 5))
          have HW3 := Lib.hid (below_alloc HW1.out (.cells #[.int .u8 13, .int .u8 10] 5))
          have HLT := Lib.hid (lit_reads .u8 5 wc [13, 10] #[.int .u8 13, .int .u8 10] 2 wc.heap.size rfl rfl rfl (by decide))
          clear HSTEP
          go_wp2_with (first
            | (at_builtin; refine print_append_row (w0 := wb) wb.heap.size rfl (.tmp 22) (.tmp 23) 22 5 .u8 1 rfl Try.underlying22 infoU8 (by decide) _ out [13, 10] _ _ _ rfl rfl HO2.out HLT.out HW3.out HW3.out.size HLB.out ?_; intro v4 w4 hO4 hb4 _ _; have HO4 : Hid (ORow .u8 5 w4 wb.heap.size v4 (out ++ [13, 10])) := Lib.hid hO4; have HW4 := Lib.hid hb4; clear hO4 hb4))
          go_roundw
          case rel => exact ⟨out ++ [13, 10], i + 2, f, hi2, by go_num, HO4, HW4, HST3, Lib.hid (by have := Hf.out; omega), HA3⟩
          case measure => simp [intOf]; omega
    · have HV2 : Hid (V = (out, 0, 0)) := Lib.hid (by
        rw [HE.out]
        cases f with
        | zero => rfl
        | succ f => rw [decQ, if_pos (by have := HL.out; omega)])
      go_wp2
      have HF1 := blk_set (blk_set HBX.out 0 (.int .i64 0)) 1 (.int .i64 0)
      refine bodyPost_ret (results_tc rfl _ _ _ _ _ _ _ rfl HF1 Try.underlying30 rfl (by kernel_rfl)) rfl ?_
      rw [HV2.out]
      exact ⟨_, rfl, ((HO.out.lower HWB.out.size).set_ HBX.out (by decide) 0 _).set_ (blk_set HBX.out 0 _) (by decide) 1 _, below_set (below_set HWT.out (Nat.le_refl _)) (Nat.le_refl _)⟩
end Go.Proofs.Ytdebimpjbcihhaa
