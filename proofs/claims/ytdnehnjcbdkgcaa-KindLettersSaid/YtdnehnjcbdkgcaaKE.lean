/- kind: the document's Write as print.sh printed it, mended (kg.py); then its Token, Lower, Right, Write and Get in plain terms. -/
import Derived.Test.YtdnehnjcbdkgcaaK15
import Derived.Test.YtdnehnjcbdkgcaaPKindReadsx4
import Derived.Test.YtdnehnjcbdkgcaaPKindReadsx5
namespace Go.Proofs.Ytdnehnjcbdkgcaa.PKindReads
open Go.RowKit Go.Proofs.YtdnehnjcbdkgcaaW.PrintWords Go.Proofs.YtdnehnjcbdkgcaaW.PrintLast Go.Proofs.YtdnehnjcbdkgcaaW.PrintMore
attribute [local go_sem] max2_int min2_int max_two min_two max_three min_three max_four min_four   -- for this text's walks alone
set_option linter.unusedVariables false
set_option linter.unusedSimpArgs false
theorem h59 : (⟨#[59, 32]⟩ : ByteArray).size = 2 := rfl
theorem h61 : (⟨#[61]⟩ : ByteArray).size = 1 := rfl
theorem h34 : (⟨#[34]⟩ : ByteArray).size = 1 := rfl
theorem h92 : (⟨#[92]⟩ : ByteArray).size = 1 := rfl
theorem h47 : (⟨#[47]⟩ : ByteArray).size = 1 := rfl


/-! ### posthornref08_Write: function 14 -/
mutual
def posthornref08_Write.l0 : Nat → ByteArray → Int → ByteArray → ByteArray → List (S42) → Option (ByteArray × Int)
  | 0, _, _, _, _, _ => none
  | k + 1, x4, x5, x149000, x149001, x149002 => if x5 < (x149002.length : Int) then (if 0 ≤ x5 then ((posthornref08_Token.f k ((rd_T42 x149002 x5).f1)).bind fun t151 => (if t151 = true then (if x4.size + 2 ≤ 9223372036854775807 then (if (x4 ++ (⟨#[59, 32]⟩ : ByteArray)).size + ((rd_T42 x149002 x5).f0).size ≤ 9223372036854775807 then (if ((x4 ++ (⟨#[59, 32]⟩ : ByteArray)) ++ ((rd_T42 x149002 x5).f0)).size + 1 ≤ 9223372036854775807 then (if (((x4 ++ (⟨#[59, 32]⟩ : ByteArray)) ++ ((rd_T42 x149002 x5).f0)) ++ (⟨#[61]⟩ : ByteArray)).size + ((rd_T42 x149002 x5).f1).size ≤ 9223372036854775807 then (posthornref08_Write.l0 k ((((x4 ++ (⟨#[59, 32]⟩ : ByteArray)) ++ ((rd_T42 x149002 x5).f0)) ++ (⟨#[61]⟩ : ByteArray)) ++ ((rd_T42 x149002 x5).f1)) (wrap64 (x5 + 1)) x149000 x149001 x149002) else (none)) else (none)) else (none)) else (none)) else (posthornref08_Write.l1 k x4 x5 ((rd_T42 x149002 x5).f1) (⟨#[34]⟩ : ByteArray) 0 x149000 x149001 x149002))) else (none)) else (some (x4, 0))
def posthornref08_Write.l1 : Nat → ByteArray → Int → ByteArray → ByteArray → Int → ByteArray → ByteArray → List (S42) → Option (ByteArray × Int)
  | 0, _, _, _, _, _, _, _, _ => none
  | k + 1, x4, x5, x6, x7, x8, x149000, x149001, x149002 => if x8 < (x6.size : Int) then (if 0 ≤ x8 then (if (bt x6 x8) = 34 then (if x7.size + 1 ≤ 9223372036854775807 then (if x8 ≤ (wrap64 (x8 + 1)) then (if (wrap64 (x8 + 1)) ≤ (x6.size : Int) then (if (x7 ++ (⟨#[92]⟩ : ByteArray)).size + (x6.extract (x8 : Int).toNat ((wrap64 (x8 + 1)) : Int).toNat).size ≤ 9223372036854775807 then (posthornref08_Write.l1 k x4 x5 x6 ((x7 ++ (⟨#[92]⟩ : ByteArray)) ++ (x6.extract (x8 : Int).toNat ((wrap64 (x8 + 1)) : Int).toNat)) (wrap64 (x8 + 1)) x149000 x149001 x149002) else (none)) else (none)) else (none)) else (none)) else (if (bt x6 x8) = 92 then (if x7.size + 1 ≤ 9223372036854775807 then (if x8 ≤ (wrap64 (x8 + 1)) then (if (wrap64 (x8 + 1)) ≤ (x6.size : Int) then (if (x7 ++ (⟨#[92]⟩ : ByteArray)).size + (x6.extract (x8 : Int).toNat ((wrap64 (x8 + 1)) : Int).toNat).size ≤ 9223372036854775807 then (posthornref08_Write.l1 k x4 x5 x6 ((x7 ++ (⟨#[92]⟩ : ByteArray)) ++ (x6.extract (x8 : Int).toNat ((wrap64 (x8 + 1)) : Int).toNat)) (wrap64 (x8 + 1)) x149000 x149001 x149002) else (none)) else (none)) else (none)) else (none)) else (if x8 ≤ (wrap64 (x8 + 1)) then (if (wrap64 (x8 + 1)) ≤ (x6.size : Int) then (if x7.size + (x6.extract (x8 : Int).toNat ((wrap64 (x8 + 1)) : Int).toNat).size ≤ 9223372036854775807 then (posthornref08_Write.l1 k x4 x5 x6 (x7 ++ (x6.extract (x8 : Int).toNat ((wrap64 (x8 + 1)) : Int).toNat)) (wrap64 (x8 + 1)) x149000 x149001 x149002) else (none)) else (none)) else (none)))) else (none)) else (if x7.size + 1 ≤ 9223372036854775807 then (if x4.size + 2 ≤ 9223372036854775807 then (if 0 ≤ x5 then (if x5 < (x149002.length : Int) then (if (x4 ++ (⟨#[59, 32]⟩ : ByteArray)).size + ((rd_T42 x149002 x5).f0).size ≤ 9223372036854775807 then (if ((x4 ++ (⟨#[59, 32]⟩ : ByteArray)) ++ ((rd_T42 x149002 x5).f0)).size + 1 ≤ 9223372036854775807 then (if (((x4 ++ (⟨#[59, 32]⟩ : ByteArray)) ++ ((rd_T42 x149002 x5).f0)) ++ (⟨#[61]⟩ : ByteArray)).size + (x7 ++ (⟨#[34]⟩ : ByteArray)).size ≤ 9223372036854775807 then (posthornref08_Write.l0 k ((((x4 ++ (⟨#[59, 32]⟩ : ByteArray)) ++ ((rd_T42 x149002 x5).f0)) ++ (⟨#[61]⟩ : ByteArray)) ++ (x7 ++ (⟨#[34]⟩ : ByteArray))) (wrap64 (x5 + 1)) x149000 x149001 x149002) else (none)) else (none)) else (none)) else (none)) else (none)) else (none)) else (none))
end
def posthornref08_Write.f (k : Nat) (a0_0 : ByteArray) (a0_1 : ByteArray) (l0_2 : List (S42)) : Option (ByteArray × Int) := (posthornref08_Right.f k a0_0 a0_1 l0_2).bind fun t149 => (if t149 = true then (if a0_0.size + 1 ≤ 9223372036854775807 then (if (a0_0 ++ (⟨#[47]⟩ : ByteArray)).size + a0_1.size ≤ 9223372036854775807 then (posthornref08_Write.l0 k ((a0_0 ++ (⟨#[47]⟩ : ByteArray)) ++ a0_1) 0 a0_0 a0_1 l0_2) else (none)) else (none)) else (some ((⟨#[]⟩ : ByteArray), 70)))
theorem posthornref08_Write.mono_l : ∀ k, (∀ y0 y1 y2 y3 y4, LeO (posthornref08_Write.l0 k y0 y1 y2 y3 y4) (posthornref08_Write.l0 (k + 1) y0 y1 y2 y3 y4)) ∧ (∀ y0 y1 y2 y3 y4 y5 y6 y7, LeO (posthornref08_Write.l1 k y0 y1 y2 y3 y4 y5 y6 y7) (posthornref08_Write.l1 (k + 1) y0 y1 y2 y3 y4 y5 y6 y7))
  | 0 => ⟨fun _ _ _ _ _ r h => by simp [posthornref08_Write.l0] at h, fun _ _ _ _ _ _ _ _ r h => by simp [posthornref08_Write.l1] at h⟩
  | k + 1 => by
    obtain ⟨ih0, ih1⟩ := posthornref08_Write.mono_l k
    refine ⟨?_, ?_⟩
    · intro y0 y1 y2 y3 y4
      unfold posthornref08_Write.l0
      repeat' first
      | (with_reducible exact ih0 _ _ _ _ _)
      | (with_reducible exact ih1 _ _ _ _ _ _ _ _)
      | (with_reducible exact posthornref08_Right.mono _ _ _ _)
      | (with_reducible exact posthornref08_Token.mono _ _)
      | (with_reducible exact LeO.refl _)
      | (with_reducible exact LeO.none _)
      | (with_reducible refine LeO.ite ?_ ?_)
      | (with_reducible refine LeO.bind ?_ (fun _ => ?_))
      | exact ih0 _ _ _ _ _
      | exact ih1 _ _ _ _ _ _ _ _
      | exact posthornref08_Right.mono _ _ _ _
      | exact posthornref08_Token.mono _ _
      | exact LeO.none _
      | refine LeO.ite ?_ ?_
      | refine LeO.bind ?_ (fun _ => ?_)
    · intro y0 y1 y2 y3 y4 y5 y6 y7
      unfold posthornref08_Write.l1
      repeat' first
      | (with_reducible exact ih0 _ _ _ _ _)
      | (with_reducible exact ih1 _ _ _ _ _ _ _ _)
      | (with_reducible exact posthornref08_Right.mono _ _ _ _)
      | (with_reducible exact posthornref08_Token.mono _ _)
      | (with_reducible exact LeO.refl _)
      | (with_reducible exact LeO.none _)
      | (with_reducible refine LeO.ite ?_ ?_)
      | (with_reducible refine LeO.bind ?_ (fun _ => ?_))
      | exact ih0 _ _ _ _ _
      | exact ih1 _ _ _ _ _ _ _ _
      | exact posthornref08_Right.mono _ _ _ _
      | exact posthornref08_Token.mono _ _
      | exact LeO.none _
      | refine LeO.ite ?_ ?_
      | refine LeO.bind ?_ (fun _ => ?_)
theorem posthornref08_Write.mono : ∀ a0 a1 a2 k, LeO (posthornref08_Write.f k a0 a1 a2) (posthornref08_Write.f (k + 1) a0 a1 a2) := by
  intro a0 a1 a2 k
  obtain ⟨ih0, ih1⟩ := posthornref08_Write.mono_l k
  unfold posthornref08_Write.f
  repeat' first
      | (with_reducible exact ih0 _ _ _ _ _)
      | (with_reducible exact ih1 _ _ _ _ _ _ _ _)
      | (with_reducible exact posthornref08_Right.mono _ _ _ _)
      | (with_reducible exact posthornref08_Token.mono _ _)
      | (with_reducible exact LeO.refl _)
      | (with_reducible exact LeO.none _)
      | (with_reducible refine LeO.ite ?_ ?_)
      | (with_reducible refine LeO.bind ?_ (fun _ => ?_))
      | exact ih0 _ _ _ _ _
      | exact ih1 _ _ _ _ _ _ _ _
      | exact posthornref08_Right.mono _ _ _ _
      | exact posthornref08_Token.mono _ _
      | exact LeO.none _
      | refine LeO.ite ?_ ?_
      | refine LeO.bind ?_ (fun _ => ?_)
set_option maxHeartbeats 8000000 in
set_option maxRecDepth 100000 in
theorem posthornref08_Write.calls (k : Nat) (a0_0 : ByteArray) (a0_1 : ByteArray) (A0_2 : Option Addr) (c0_2 : Nat) (l0_2 : List (S42)) (r1 : ByteArray) (r2 : Int) (w : World) (hr0_2 : Kd.C k42 w A0_2 l0_2.length l0_2) (hc0_2 : l0_2.length ≤ c0_2) (h : posthornref08_Write.f k a0_0 a0_1 l0_2 = some (r1, r2)) :
    Calls Try.prog 14 #[.agg #[.string a0_0, .string a0_1, .slice A0_2 l0_2.length c0_2]] w fun e w' => e = .returned (.tuple #[.string r1, .int .i64 r2]) ∧ Below w.heap.size w w' := by
  have hu25 := Try.underlying25
  have HR0_2 := Aside0.mk hr0_2
  have HC0_2 := Aside0.mk hc0_2
  clear hr0_2 hc0_2
  have HB := Aside0.mk (Below.refl w.heap.size w)
  have H : ((posthornref08_Right.f k a0_0 a0_1 l0_2).bind fun t149 => (if t149 = true then (if a0_0.size + 1 ≤ 9223372036854775807 then (if (a0_0 ++ (⟨#[47]⟩ : ByteArray)).size + a0_1.size ≤ 9223372036854775807 then (posthornref08_Write.l0 k ((a0_0 ++ (⟨#[47]⟩ : ByteArray)) ++ a0_1) 0 a0_0 a0_1 l0_2) else (none)) else (none)) else (some ((⟨#[]⟩ : ByteArray), 70)))) = some (r1, r2) := h
  clear h
  replace H := Option.bind_eq_some_iff.mp H
  obtain ⟨t149, A20, H⟩ := H
  replace H : (if t149 = true then (if a0_0.size + 1 ≤ 9223372036854775807 then (if (a0_0 ++ (⟨#[47]⟩ : ByteArray)).size + a0_1.size ≤ 9223372036854775807 then (posthornref08_Write.l0 k ((a0_0 ++ (⟨#[47]⟩ : ByteArray)) ++ a0_1) 0 a0_0 a0_1 l0_2) else (none)) else (none)) else (some ((⟨#[]⟩ : ByteArray), 70))) = some (r1, r2) := H
  have A2 := Aside0.mk A20
  clear A20
  by_cases c3 : t149 = true
  · subst c3
    have H1 : (if a0_0.size + 1 ≤ 9223372036854775807 then (if (a0_0 ++ (⟨#[47]⟩ : ByteArray)).size + a0_1.size ≤ 9223372036854775807 then (posthornref08_Write.l0 k ((a0_0 ++ (⟨#[47]⟩ : ByteArray)) ++ a0_1) 0 a0_0 a0_1 l0_2) else (none)) else (none)) = some (r1, r2) := by rw [if_pos rfl] at H; exact H
    clear H
    have H := H1
    clear H1
    by_cases c4 : a0_0.size + 1 ≤ 9223372036854775807
    · rw [if_pos c4] at H
      have c4b0 := eq_true c4
      have c4b1 : decide (a0_0.size + 1 ≤ 9223372036854775807) = true := decide_eq_true c4
      try have c4b2 : (9223372036854775807 < a0_0.size + 1) = False := eq_false (Nat.not_lt.2 c4)
      by_cases c5 : (a0_0 ++ (⟨#[47]⟩ : ByteArray)).size + a0_1.size ≤ 9223372036854775807
      · rw [if_pos c5] at H
        have c5b0 := eq_true c5
        have c5b1 : decide ((a0_0 ++ (⟨#[47]⟩ : ByteArray)).size + a0_1.size ≤ 9223372036854775807) = true := decide_eq_true c5
        try have c5b2 : (9223372036854775807 < (a0_0 ++ (⟨#[47]⟩ : ByteArray)).size + a0_1.size) = False := eq_false (Nat.not_lt.2 c5)
        try have c5b3 := c5b2
        try simp only [ByteArray.size_append, h59, h61, h34, h92, h47] at c5b3
        have H' := Aside0.mk H
        clear H
        go_enter Try.func14, Try.ntmps14
        go_wp2_with (first | ((with_reducible refine gate_dst (N := 1) rfl ?_); refine box_event ?hg (N := 1) ?hd (cs := #[.string a0_0, .string a0_1, .slice A0_2 l0_2.length c0_2]) (t := 25) ?hr ?_; (case hd => rfl); (case hg => rfl); (case hr => first | (go_simp; done) | (go_simp; rfl)); intro gb148 hg w6 hbox hb; have n0_ := Aside0.mk (below_step (by repeat (first | (with_reducible first | exact HB.out | apply below_alloc | apply pw_below_drewN | apply below_drew1) | exact HB.out)) hb); have n1_ := Aside0.mk (hbox); have n2_ := Aside0.mk ((by rw [hg]; exact (below_size (by repeat (first | (with_reducible first | exact HB.out | apply below_alloc | apply pw_below_drewN | apply below_drew1) | exact HB.out))) : w.heap.size ≤ gb148)); have n3_ := Aside0.mk ((by rw [hg]; exact (below_size (by repeat (first | (with_reducible first | exact HB.out | apply below_alloc | apply pw_below_drewN | apply below_drew1) | exact HB.out))) : w.heap.size ≤ gb148)); clear HB; have HB := n0_; have BK148 := n1_; have GW148 := n2_; have GE148 := n3_; clear n0_ n1_ n2_ n3_; clear hb hbox hg; have hcz7_0 : w6.cell? ⟨gb148, 0, none⟩ = some (.string a0_0) := (blk_cell BK148.out 0).trans rfl; have hcz7_1 : w6.cell? ⟨gb148, 1, none⟩ = some (.string a0_1) := (blk_cell BK148.out 1).trans rfl; have hcz7_2 : w6.cell? ⟨gb148, 2, none⟩ = some (.slice A0_2 l0_2.length c0_2) := (blk_cell BK148.out 2).trans rfl; have hfz7_0 := blk_frozen BK148.out 0; have hfz7_1 := blk_frozen BK148.out 1; have hfz7_2 := blk_frozen BK148.out 2) | ((with_reducible refine gate_callee (f := 18) rfl ?_); refine goesL_ (some 10) rfl rfl Try.func18 (by kernel_rfl) rfl #[.agg #[.string a0_0, .string a0_1, .slice A0_2 l0_2.length c0_2]] rfl (by (try simp only [List.map_toArray, List.map_cons, List.map_nil]); first | done | rfl | (simp only [List.length_drop, List.length_take]; rfl)) ?_; (with_reducible refine (posthornref08_Right.calls k a0_0 a0_1 _ _ l0_2 true _ ?side1 ?side2 A2.out).mono ?_); (case side1 => repeat (first | exact (Kd.C_below HR0_2.out HB.out) | (with_reducible refine Kd.C_alloc ?_ _) | (with_reducible refine Kd.C_drewN ?_ _) | (with_reducible refine Kd.C_drew ?_))); (case side2 => exact HC0_2.out); rintro e w8 ⟨rfl, hb⟩; refine ⟨_, rfl, ?_⟩; have n0_ := Aside0.mk (blk_below (g := gb148) (o := .cells #[.string a0_0, .string a0_1, .slice A0_2 l0_2.length c0_2] 25 (0, 0)) (by (with_reducible repeat (first | refine blk_drewN ?_ _ | refine blk_drew ?_ | refine blk_alloc ?_ _)); exact BK148.out) hb); have n1_ := Aside0.mk (below_step (by repeat (first | (with_reducible first | exact HB.out | apply below_alloc | apply pw_below_drewN | apply below_drew1 | refine below_set ?_ GE148.out) | exact HB.out)) hb); clear BK148; clear HB; have BK148 := n0_; have HB := n1_; clear n0_ n1_; (try clear hb); (try clear hb2); (try clear hk); (try clear hi); have hcz9_0 : w8.cell? ⟨gb148, 0, none⟩ = some (.string a0_0) := (blk_cell BK148.out 0).trans rfl; have hcz9_1 : w8.cell? ⟨gb148, 1, none⟩ = some (.string a0_1) := (blk_cell BK148.out 1).trans rfl; have hcz9_2 : w8.cell? ⟨gb148, 2, none⟩ = some (.slice A0_2 l0_2.length c0_2) := (blk_cell BK148.out 2).trans rfl; have hfz9_0 := blk_frozen BK148.out 0; have hfz9_1 := blk_frozen BK148.out 1; have hfz9_2 := blk_frozen BK148.out 2))
        go_loopg [4, 5] k (fun kq v4 v5 w' => ∃ (x4_1 : ByteArray) (x5_1 : Int), v4 = .string x4_1 ∧ v5 = .int .i64 x5_1 ∧ Aside0 (posthornref08_Write.l0 kq x4_1 x5_1 a0_0 a0_1 l0_2 = some (r1, r2)) ∧ Aside0 (kq ≤ k) ∧ Aside0 (w'.heap[gb148]? = some (.cells #[.string a0_0, .string a0_1, (.slice A0_2 l0_2.length c0_2)] 25 (0, 0))) ∧ Aside0 (Below w.heap.size w w'))
        case atStart => exact ⟨((a0_0 ++ (⟨#[47]⟩ : ByteArray)) ++ a0_1), (0), (by first | rfl | (simp; done) | (simp [*]; done)), (by first | rfl | (simp; done) | (simp [*]; done)), H', ⟨Nat.le_refl _⟩, ⟨by (with_reducible repeat (first | refine blk_drewN ?_ _ | refine blk_drew ?_ | refine blk_alloc ?_ _)); exact BK148.out⟩, ⟨by repeat (first | (with_reducible first | exact HB.out | apply below_alloc | apply pw_below_drewN | apply below_drew1 | refine below_set ?_ GE148.out) | exact HB.out)⟩⟩
        case round =>
          clear H'
          try clear c1
          try clear p2
          try clear c3
          try clear c4
          try clear c4b0
          try clear c4b1
          try clear c4b2
          try clear c5
          try clear c5b0
          try clear c5b1
          try clear c5b2
          try clear hcz7_0
          try clear hcz7_1
          try clear hcz7_2
          try clear hcz9_0
          try clear hcz9_1
          try clear hcz9_2
          try clear hfz7_0
          try clear hfz7_1
          try clear hfz7_2
          try clear hfz9_0
          try clear hfz9_1
          try clear hfz9_2
          obtain ⟨x4_1, x5_1, rfl, rfl, HA, HK1, BK148, HB⟩ := hrel
          cases gk with
          | zero => exact absurd HA.out (by simp [posthornref08_Write.l0])
          | succ k1 =>
            have H := HA.out
            clear HA
            simp only [posthornref08_Write.l0] at H
            by_cases c10 : x5_1 < (l0_2.length : Int)
            · rw [if_pos c10] at H
              have c10b0 : decide (x5_1 < (l0_2.length : Int)) = true := decide_eq_true c10
              clear c10
              by_cases c11 : 0 ≤ x5_1
              · rw [if_pos c11] at H
                have c11b0 : decide (0 ≤ x5_1) = true := decide_eq_true c11
                clear c11
                replace H := Option.bind_eq_some_iff.mp H
                obtain ⟨t151, A120, H⟩ := H
                replace H : (if t151 = true then (if x4_1.size + 2 ≤ 9223372036854775807 then (if (x4_1 ++ (⟨#[59, 32]⟩ : ByteArray)).size + ((rd_T42 l0_2 x5_1).f0).size ≤ 9223372036854775807 then (if ((x4_1 ++ (⟨#[59, 32]⟩ : ByteArray)) ++ ((rd_T42 l0_2 x5_1).f0)).size + 1 ≤ 9223372036854775807 then (if (((x4_1 ++ (⟨#[59, 32]⟩ : ByteArray)) ++ ((rd_T42 l0_2 x5_1).f0)) ++ (⟨#[61]⟩ : ByteArray)).size + ((rd_T42 l0_2 x5_1).f1).size ≤ 9223372036854775807 then (posthornref08_Write.l0 k1 ((((x4_1 ++ (⟨#[59, 32]⟩ : ByteArray)) ++ ((rd_T42 l0_2 x5_1).f0)) ++ (⟨#[61]⟩ : ByteArray)) ++ ((rd_T42 l0_2 x5_1).f1)) (wrap64 (x5_1 + 1)) a0_0 a0_1 l0_2) else (none)) else (none)) else (none)) else (none)) else (posthornref08_Write.l1 k1 x4_1 x5_1 ((rd_T42 l0_2 x5_1).f1) (⟨#[34]⟩ : ByteArray) 0 a0_0 a0_1 l0_2)) = some (r1, r2) := H
                have A12 := Aside0.mk A120
                clear A120
                by_cases c13 : t151 = true
                · subst c13
                  have H1 : (if x4_1.size + 2 ≤ 9223372036854775807 then (if (x4_1 ++ (⟨#[59, 32]⟩ : ByteArray)).size + ((rd_T42 l0_2 x5_1).f0).size ≤ 9223372036854775807 then (if ((x4_1 ++ (⟨#[59, 32]⟩ : ByteArray)) ++ ((rd_T42 l0_2 x5_1).f0)).size + 1 ≤ 9223372036854775807 then (if (((x4_1 ++ (⟨#[59, 32]⟩ : ByteArray)) ++ ((rd_T42 l0_2 x5_1).f0)) ++ (⟨#[61]⟩ : ByteArray)).size + ((rd_T42 l0_2 x5_1).f1).size ≤ 9223372036854775807 then (posthornref08_Write.l0 k1 ((((x4_1 ++ (⟨#[59, 32]⟩ : ByteArray)) ++ ((rd_T42 l0_2 x5_1).f0)) ++ (⟨#[61]⟩ : ByteArray)) ++ ((rd_T42 l0_2 x5_1).f1)) (wrap64 (x5_1 + 1)) a0_0 a0_1 l0_2) else (none)) else (none)) else (none)) else (none)) = some (r1, r2) := by rw [if_pos rfl] at H; exact H
                  clear H
                  have H := H1
                  clear H1
                  by_cases c14 : x4_1.size + 2 ≤ 9223372036854775807
                  · rw [if_pos c14] at H
                    have c14b0 := eq_true c14
                    have c14b1 : decide (x4_1.size + 2 ≤ 9223372036854775807) = true := decide_eq_true c14
                    try have c14b2 : (9223372036854775807 < x4_1.size + 2) = False := eq_false (Nat.not_lt.2 c14)
                    by_cases c15 : (x4_1 ++ (⟨#[59, 32]⟩ : ByteArray)).size + ((rd_T42 l0_2 x5_1).f0).size ≤ 9223372036854775807
                    · rw [if_pos c15] at H
                      have c15b0 := eq_true c15
                      have c15b1 : decide ((x4_1 ++ (⟨#[59, 32]⟩ : ByteArray)).size + ((rd_T42 l0_2 x5_1).f0).size ≤ 9223372036854775807) = true := decide_eq_true c15
                      try have c15b2 : (9223372036854775807 < (x4_1 ++ (⟨#[59, 32]⟩ : ByteArray)).size + ((rd_T42 l0_2 x5_1).f0).size) = False := eq_false (Nat.not_lt.2 c15)
                      try have c15b3 := c15b2
                      try simp only [ByteArray.size_append, h59, h61, h34, h92, h47] at c15b3
                      by_cases c16 : ((x4_1 ++ (⟨#[59, 32]⟩ : ByteArray)) ++ ((rd_T42 l0_2 x5_1).f0)).size + 1 ≤ 9223372036854775807
                      · rw [if_pos c16] at H
                        have c16b0 := eq_true c16
                        have c16b1 : decide (((x4_1 ++ (⟨#[59, 32]⟩ : ByteArray)) ++ ((rd_T42 l0_2 x5_1).f0)).size + 1 ≤ 9223372036854775807) = true := decide_eq_true c16
                        try have c16b2 : (9223372036854775807 < ((x4_1 ++ (⟨#[59, 32]⟩ : ByteArray)) ++ ((rd_T42 l0_2 x5_1).f0)).size + 1) = False := eq_false (Nat.not_lt.2 c16)
                        try have c16b3 := c16b2
                        try simp only [ByteArray.size_append, h59, h61, h34, h92, h47] at c16b3
                        by_cases c17 : (((x4_1 ++ (⟨#[59, 32]⟩ : ByteArray)) ++ ((rd_T42 l0_2 x5_1).f0)) ++ (⟨#[61]⟩ : ByteArray)).size + ((rd_T42 l0_2 x5_1).f1).size ≤ 9223372036854775807
                        · rw [if_pos c17] at H
                          have c17b0 := eq_true c17
                          have c17b1 : decide ((((x4_1 ++ (⟨#[59, 32]⟩ : ByteArray)) ++ ((rd_T42 l0_2 x5_1).f0)) ++ (⟨#[61]⟩ : ByteArray)).size + ((rd_T42 l0_2 x5_1).f1).size ≤ 9223372036854775807) = true := decide_eq_true c17
                          try have c17b2 : (9223372036854775807 < (((x4_1 ++ (⟨#[59, 32]⟩ : ByteArray)) ++ ((rd_T42 l0_2 x5_1).f0)) ++ (⟨#[61]⟩ : ByteArray)).size + ((rd_T42 l0_2 x5_1).f1).size) = False := eq_false (Nat.not_lt.2 c17)
                          try have c17b3 := c17b2
                          try simp only [ByteArray.size_append, h59, h61, h34, h92, h47] at c17b3
                          have H' := Aside0.mk H
                          clear H
                          have hcz18_0 : wr.cell? ⟨gb148, 0, none⟩ = some (.string a0_0) := (blk_cell BK148.out 0).trans rfl
                          have hcz18_1 : wr.cell? ⟨gb148, 1, none⟩ = some (.string a0_1) := (blk_cell BK148.out 1).trans rfl
                          have hcz18_2 : wr.cell? ⟨gb148, 2, none⟩ = some (.slice A0_2 l0_2.length c0_2) := (blk_cell BK148.out 2).trans rfl
                          have hfz18_0 := blk_frozen BK148.out 0
                          have hfz18_1 := blk_frozen BK148.out 1
                          have hfz18_2 := blk_frozen BK148.out 2
                          have p150 : 0 ≤ (x5_1 : Int) := of_decide_eq_true (by first | (with_reducible assumption) | assumption)
                          have q150 : x5_1 < (l0_2.length : Int) := of_decide_eq_true (by first | (with_reducible assumption) | assumption)
                          obtain ⟨ad150, e150, hx150_0, hx150_1⟩ := at_T42 HR0_2.out x5_1 p150 q150
                          cases e150
                          replace hx150_0 := (HB.out.cell (World.block_lt_of_cell? w _ hx150_0)).trans hx150_0
                          replace hx150_1 := (HB.out.cell (World.block_lt_of_cell? w _ hx150_1)).trans hx150_1
                          replace p150 := eq_true p150
                          replace q150 := eq_true q150
                          go_wp2_with (first | ((with_reducible refine gate_callee (f := 36) rfl ?_); refine goesL_ (some 32) rfl rfl Try.func36 (by kernel_rfl) rfl #[.string ((rd_T42 l0_2 x5_1).f1)] rfl (by (try simp only [List.map_toArray, List.map_cons, List.map_nil]); first | done | rfl | (simp only [List.length_drop, List.length_take]; rfl)) ?_; (with_reducible refine (posthornref08_Token.calls k1 ((rd_T42 l0_2 x5_1).f1) true _ A12.out).mono ?_); rintro e w19 ⟨rfl, hb⟩; refine ⟨_, rfl, ?_⟩; have n0_ := Aside0.mk (blk_below (g := gb148) (o := .cells #[.string a0_0, .string a0_1, .slice (some ad150) l0_2.length c0_2] 25 (0, 0)) (by (with_reducible repeat (first | refine blk_drewN ?_ _ | refine blk_drew ?_ | refine blk_alloc ?_ _)); exact BK148.out) hb); have n1_ := Aside0.mk (below_step (by repeat (first | (with_reducible first | exact HB.out | apply below_alloc | apply pw_below_drewN | apply below_drew1 | refine below_set ?_ GE148.out) | exact HB.out)) hb); clear BK148; clear HB; have BK148 := n0_; have HB := n1_; clear n0_ n1_; (try clear hb); (try clear hb2); (try clear hk); (try clear hi); have hcz20_0 : w19.cell? ⟨gb148, 0, none⟩ = some (.string a0_0) := (blk_cell BK148.out 0).trans rfl; have hcz20_1 : w19.cell? ⟨gb148, 1, none⟩ = some (.string a0_1) := (blk_cell BK148.out 1).trans rfl; have hcz20_2 : w19.cell? ⟨gb148, 2, none⟩ = some (.slice (some ad150) l0_2.length c0_2) := (blk_cell BK148.out 2).trans rfl; have hfz20_0 := blk_frozen BK148.out 0; have hfz20_1 := blk_frozen BK148.out 1; have hfz20_2 := blk_frozen BK148.out 2; have p152 : 0 ≤ (x5_1 : Int) := of_decide_eq_true (by first | (with_reducible assumption) | assumption); have q152 : x5_1 < (l0_2.length : Int) := of_decide_eq_true (by first | (with_reducible assumption) | assumption); obtain ⟨ad152, e152, hx152_0, hx152_1⟩ := at_T42 HR0_2.out x5_1 p152 q152; obtain rfl : ad150 = ad152 := (by injection e152); replace hx152_0 := (HB.out.cell (World.block_lt_of_cell? w _ hx152_0)).trans hx152_0; replace hx152_1 := (HB.out.cell (World.block_lt_of_cell? w _ hx152_1)).trans hx152_1; replace p152 := eq_true p152; replace q152 := eq_true q152))
                          go_roundg k1
                          case measure => have := HK1.out; omega
                          case rel => exact ⟨((((x4_1 ++ (⟨#[59, 32]⟩ : ByteArray)) ++ ((rd_T42 l0_2 x5_1).f0)) ++ (⟨#[61]⟩ : ByteArray)) ++ ((rd_T42 l0_2 x5_1).f1)), (wrap64 (x5_1 + 1)), (by first | rfl | (simp; done) | (simp [*]; done)), (by first | rfl | (simp; done) | (simp [*]; done)), H', ⟨by have := HK1.out; omega⟩, ⟨by (with_reducible repeat (first | refine blk_drewN ?_ _ | refine blk_drew ?_ | refine blk_alloc ?_ _)); exact BK148.out⟩, ⟨by repeat (first | (with_reducible first | exact HB.out | apply below_alloc | apply pw_below_drewN | apply below_drew1 | refine below_set ?_ GE148.out) | exact HB.out)⟩⟩
                        · rw [if_neg c17] at H
                          exact absurd H (by simp)
                      · rw [if_neg c16] at H
                        exact absurd H (by simp)
                    · rw [if_neg c15] at H
                      exact absurd H (by simp)
                  · rw [if_neg c14] at H
                    exact absurd H (by simp)
                · replace c13 := Bool.eq_false_iff.mpr c13
                  subst c13
                  have H1 : (posthornref08_Write.l1 k1 x4_1 x5_1 ((rd_T42 l0_2 x5_1).f1) (⟨#[34]⟩ : ByteArray) 0 a0_0 a0_1 l0_2) = some (r1, r2) := by rw [if_neg (show ¬ (false = true) by decide)] at H; exact H
                  clear H
                  have H := H1
                  clear H1
                  have H' := Aside0.mk H
                  clear H
                  have hcz21_0 : wr.cell? ⟨gb148, 0, none⟩ = some (.string a0_0) := (blk_cell BK148.out 0).trans rfl
                  have hcz21_1 : wr.cell? ⟨gb148, 1, none⟩ = some (.string a0_1) := (blk_cell BK148.out 1).trans rfl
                  have hcz21_2 : wr.cell? ⟨gb148, 2, none⟩ = some (.slice A0_2 l0_2.length c0_2) := (blk_cell BK148.out 2).trans rfl
                  have hfz21_0 := blk_frozen BK148.out 0
                  have hfz21_1 := blk_frozen BK148.out 1
                  have hfz21_2 := blk_frozen BK148.out 2
                  have p150 : 0 ≤ (x5_1 : Int) := of_decide_eq_true (by first | (with_reducible assumption) | assumption)
                  have q150 : x5_1 < (l0_2.length : Int) := of_decide_eq_true (by first | (with_reducible assumption) | assumption)
                  obtain ⟨ad150, e150, hx150_0, hx150_1⟩ := at_T42 HR0_2.out x5_1 p150 q150
                  cases e150
                  replace hx150_0 := (HB.out.cell (World.block_lt_of_cell? w _ hx150_0)).trans hx150_0
                  replace hx150_1 := (HB.out.cell (World.block_lt_of_cell? w _ hx150_1)).trans hx150_1
                  replace p150 := eq_true p150
                  replace q150 := eq_true q150
                  go_wp2_with (first | ((with_reducible refine gate_callee (f := 36) rfl ?_); refine goesL_ (some 32) rfl rfl Try.func36 (by kernel_rfl) rfl #[.string ((rd_T42 l0_2 x5_1).f1)] rfl (by (try simp only [List.map_toArray, List.map_cons, List.map_nil]); first | done | rfl | (simp only [List.length_drop, List.length_take]; rfl)) ?_; (with_reducible refine (posthornref08_Token.calls k1 ((rd_T42 l0_2 x5_1).f1) false _ A12.out).mono ?_); rintro e w22 ⟨rfl, hb⟩; refine ⟨_, rfl, ?_⟩; have n0_ := Aside0.mk (blk_below (g := gb148) (o := .cells #[.string a0_0, .string a0_1, .slice (some ad150) l0_2.length c0_2] 25 (0, 0)) (by (with_reducible repeat (first | refine blk_drewN ?_ _ | refine blk_drew ?_ | refine blk_alloc ?_ _)); exact BK148.out) hb); have n1_ := Aside0.mk (below_step (by repeat (first | (with_reducible first | exact HB.out | apply below_alloc | apply pw_below_drewN | apply below_drew1 | refine below_set ?_ GE148.out) | exact HB.out)) hb); clear BK148; clear HB; have BK148 := n0_; have HB := n1_; clear n0_ n1_; (try clear hb); (try clear hb2); (try clear hk); (try clear hi)))
                  go_loopg [7, 8] k1 (fun kq v7 v8 w' => ∃ (x7_2 : ByteArray) (x8_2 : Int), v7 = .string x7_2 ∧ v8 = .int .i64 x8_2 ∧ Aside0 (posthornref08_Write.l1 kq x4_1 x5_1 ((rd_T42 l0_2 x5_1).f1) x7_2 x8_2 a0_0 a0_1 l0_2 = some (r1, r2)) ∧ Aside0 (kq ≤ k1) ∧ Aside0 (w'.heap[gb148]? = some (.cells #[.string a0_0, .string a0_1, (.slice (some ad150) l0_2.length c0_2)] 25 (0, 0))) ∧ Aside0 (Below w.heap.size w w'))
                  case atStart => exact ⟨((⟨#[34]⟩ : ByteArray)), (0), (by first | rfl | (simp; done) | (simp [*]; done)), (by first | rfl | (simp; done) | (simp [*]; done)), H', ⟨Nat.le_refl _⟩, ⟨by (with_reducible repeat (first | refine blk_drewN ?_ _ | refine blk_drew ?_ | refine blk_alloc ?_ _)); exact BK148.out⟩, ⟨by repeat (first | (with_reducible first | exact HB.out | apply below_alloc | apply pw_below_drewN | apply below_drew1 | refine below_set ?_ GE148.out) | exact HB.out)⟩⟩
                  case round =>
                    clear H'
                    try clear c1
                    try clear p1
                    try clear q1
                    try clear hx1
                    try clear p2
                    try clear c3
                    try clear c4
                    try clear c4b0
                    try clear c4b1
                    try clear c4b2
                    try clear c5
                    try clear c5b0
                    try clear c5b1
                    try clear c5b2
                    try clear p6
                    try clear c10
                    try clear c10b0
                    try clear c11
                    try clear c11b0
                    try clear c13
                    try clear c14
                    try clear c14b0
                    try clear c14b1
                    try clear c14b2
                    try clear c15
                    try clear c15b0
                    try clear c15b1
                    try clear c15b2
                    try clear p15
                    try clear q15
                    try clear hx15
                    try clear c16
                    try clear c16b0
                    try clear c16b1
                    try clear c16b2
                    try clear c17
                    try clear c17b0
                    try clear c17b1
                    try clear c17b2
                    try clear c18
                    try clear hcz18_0
                    try clear hcz18_1
                    try clear hcz18_2
                    try clear hcz20_0
                    try clear hcz20_1
                    try clear hcz20_2
                    try clear hcz21_0
                    try clear hcz21_1
                    try clear hcz21_2
                    try clear hcz7_0
                    try clear hcz7_1
                    try clear hcz7_2
                    try clear hcz9_0
                    try clear hcz9_1
                    try clear hcz9_2
                    try clear hfz18_0
                    try clear hfz18_1
                    try clear hfz18_2
                    try clear hfz20_0
                    try clear hfz20_1
                    try clear hfz20_2
                    try clear hfz21_0
                    try clear hfz21_1
                    try clear hfz21_2
                    try clear hfz7_0
                    try clear hfz7_1
                    try clear hfz7_2
                    try clear hfz9_0
                    try clear hfz9_1
                    try clear hfz9_2
                    try clear hx150_0
                    try clear hx150_1
                    try clear hx152_0
                    try clear hx152_1
                    try clear p150
                    try clear p152
                    try clear p2
                    try clear q150
                    try clear q152
                    obtain ⟨x7_2, x8_2, rfl, rfl, HA, HK2, BK148, HB⟩ := hrel
                    cases gk with
                    | zero => exact absurd HA.out (by simp [posthornref08_Write.l1])
                    | succ k2 =>
                      have H := HA.out
                      clear HA
                      simp only [posthornref08_Write.l1] at H
                      by_cases c23 : x8_2 < (((rd_T42 l0_2 x5_1).f1).size : Int)
                      · rw [if_pos c23] at H
                        have c23b0 : decide (x8_2 < (((rd_T42 l0_2 x5_1).f1).size : Int)) = true := decide_eq_true c23
                        clear c23
                        by_cases c24 : 0 ≤ x8_2
                        · rw [if_pos c24] at H
                          have c24b0 : decide (0 ≤ x8_2) = true := decide_eq_true c24
                          clear c24
                          by_cases c26 : (bt ((rd_T42 l0_2 x5_1).f1) x8_2) = 34
                          · rw [if_pos c26] at H
                            have c26b0 : ((bt ((rd_T42 l0_2 x5_1).f1) x8_2) == 34) = true := beq_iff_eq.mpr c26
                            have c26b1 : ((bt ((rd_T42 l0_2 x5_1).f1) x8_2) != 34) = false := bne_eq_false_iff_eq.mpr c26
                            clear c26
                            by_cases c27 : x7_2.size + 1 ≤ 9223372036854775807
                            · rw [if_pos c27] at H
                              have c27b0 := eq_true c27
                              have c27b1 : decide (x7_2.size + 1 ≤ 9223372036854775807) = true := decide_eq_true c27
                              try have c27b2 : (9223372036854775807 < x7_2.size + 1) = False := eq_false (Nat.not_lt.2 c27)
                              have c28b0 := eq_true (of_decide_eq_true (by first | (with_reducible assumption) | assumption) : 0 ≤ x8_2)
                              by_cases c29 : x8_2 ≤ (wrap64 (x8_2 + 1))
                              · rw [if_pos c29] at H
                                have c29b0 := eq_true c29
                                have c29b1 : decide (x8_2 ≤ (wrap64 (x8_2 + 1))) = true := decide_eq_true c29
                                by_cases c30 : (wrap64 (x8_2 + 1)) ≤ (((rd_T42 l0_2 x5_1).f1).size : Int)
                                · rw [if_pos c30] at H
                                  have c30b0 := eq_true c30
                                  have c30b1 : decide ((wrap64 (x8_2 + 1)) ≤ (((rd_T42 l0_2 x5_1).f1).size : Int)) = true := decide_eq_true c30
                                  by_cases c31 : (x7_2 ++ (⟨#[92]⟩ : ByteArray)).size + (((rd_T42 l0_2 x5_1).f1).extract (x8_2 : Int).toNat ((wrap64 (x8_2 + 1)) : Int).toNat).size ≤ 9223372036854775807
                                  · rw [if_pos c31] at H
                                    have c31b0 := eq_true c31
                                    have c31b1 : decide ((x7_2 ++ (⟨#[92]⟩ : ByteArray)).size + (((rd_T42 l0_2 x5_1).f1).extract (x8_2 : Int).toNat ((wrap64 (x8_2 + 1)) : Int).toNat).size ≤ 9223372036854775807) = true := decide_eq_true c31
                                    try have c31b2 : (9223372036854775807 < (x7_2 ++ (⟨#[92]⟩ : ByteArray)).size + (((rd_T42 l0_2 x5_1).f1).extract (x8_2 : Int).toNat ((wrap64 (x8_2 + 1)) : Int).toNat).size) = False := eq_false (Nat.not_lt.2 c31)
                                    try have c31b3 := c31b2
                                    try simp only [ByteArray.size_append, h59, h61, h34, h92, h47] at c31b3
                                    have H' := Aside0.mk H
                                    clear H
                                    have p25 : 0 ≤ (x8_2 : Int) := of_decide_eq_true (by first | (with_reducible assumption) | assumption)
                                    have q25 : x8_2 < (((rd_T42 l0_2 x5_1).f1).size : Int) := of_decide_eq_true (by first | (with_reducible assumption) | assumption)
                                    have hx25 := bt_at ((rd_T42 l0_2 x5_1).f1) x8_2
                                    replace p25 := eq_true p25
                                    replace q25 := eq_true q25
                                    go_wp2
                                    go_roundg k2
                                    case measure => have := HK1.out; have := HK2.out; omega
                                    case rel => exact ⟨((x7_2 ++ (⟨#[92]⟩ : ByteArray)) ++ (((rd_T42 l0_2 x5_1).f1).extract (x8_2 : Int).toNat ((wrap64 (x8_2 + 1)) : Int).toNat)), (wrap64 (x8_2 + 1)), (by first | rfl | (simp; done) | (simp [*]; done)), (by first | rfl | (simp; done) | (simp [*]; done)), H', ⟨by have := HK1.out; have := HK2.out; omega⟩, ⟨by (with_reducible repeat (first | refine blk_drewN ?_ _ | refine blk_drew ?_ | refine blk_alloc ?_ _)); exact BK148.out⟩, ⟨by repeat (first | (with_reducible first | exact HB.out | apply below_alloc | apply pw_below_drewN | apply below_drew1 | refine below_set ?_ GE148.out) | exact HB.out)⟩⟩
                                  · rw [if_neg c31] at H
                                    exact absurd H (by simp)
                                · rw [if_neg c30] at H
                                  exact absurd H (by simp)
                              · rw [if_neg c29] at H
                                exact absurd H (by simp)
                            · rw [if_neg c27] at H
                              exact absurd H (by simp)
                          · rw [if_neg c26] at H
                            have c26b0 : ((bt ((rd_T42 l0_2 x5_1).f1) x8_2) == 34) = false := beq_eq_false_iff_ne.mpr c26
                            have c26b1 : ((bt ((rd_T42 l0_2 x5_1).f1) x8_2) != 34) = true := bne_iff_ne.mpr c26
                            by_cases c33 : (bt ((rd_T42 l0_2 x5_1).f1) x8_2) = 92
                            · rw [if_pos c33] at H
                              have c33b0 : ((bt ((rd_T42 l0_2 x5_1).f1) x8_2) == 92) = true := beq_iff_eq.mpr c33
                              have c33b1 : ((bt ((rd_T42 l0_2 x5_1).f1) x8_2) != 92) = false := bne_eq_false_iff_eq.mpr c33
                              clear c33
                              by_cases c34 : x7_2.size + 1 ≤ 9223372036854775807
                              · rw [if_pos c34] at H
                                have c34b0 := eq_true c34
                                have c34b1 : decide (x7_2.size + 1 ≤ 9223372036854775807) = true := decide_eq_true c34
                                try have c34b2 : (9223372036854775807 < x7_2.size + 1) = False := eq_false (Nat.not_lt.2 c34)
                                have c35b0 := eq_true (of_decide_eq_true (by first | (with_reducible assumption) | assumption) : 0 ≤ x8_2)
                                by_cases c36 : x8_2 ≤ (wrap64 (x8_2 + 1))
                                · rw [if_pos c36] at H
                                  have c36b0 := eq_true c36
                                  have c36b1 : decide (x8_2 ≤ (wrap64 (x8_2 + 1))) = true := decide_eq_true c36
                                  by_cases c37 : (wrap64 (x8_2 + 1)) ≤ (((rd_T42 l0_2 x5_1).f1).size : Int)
                                  · rw [if_pos c37] at H
                                    have c37b0 := eq_true c37
                                    have c37b1 : decide ((wrap64 (x8_2 + 1)) ≤ (((rd_T42 l0_2 x5_1).f1).size : Int)) = true := decide_eq_true c37
                                    by_cases c38 : (x7_2 ++ (⟨#[92]⟩ : ByteArray)).size + (((rd_T42 l0_2 x5_1).f1).extract (x8_2 : Int).toNat ((wrap64 (x8_2 + 1)) : Int).toNat).size ≤ 9223372036854775807
                                    · rw [if_pos c38] at H
                                      have c38b0 := eq_true c38
                                      have c38b1 : decide ((x7_2 ++ (⟨#[92]⟩ : ByteArray)).size + (((rd_T42 l0_2 x5_1).f1).extract (x8_2 : Int).toNat ((wrap64 (x8_2 + 1)) : Int).toNat).size ≤ 9223372036854775807) = true := decide_eq_true c38
                                      try have c38b2 : (9223372036854775807 < (x7_2 ++ (⟨#[92]⟩ : ByteArray)).size + (((rd_T42 l0_2 x5_1).f1).extract (x8_2 : Int).toNat ((wrap64 (x8_2 + 1)) : Int).toNat).size) = False := eq_false (Nat.not_lt.2 c38)
                                      try have c38b3 := c38b2
                                      try simp only [ByteArray.size_append, h59, h61, h34, h92, h47] at c38b3
                                      have H' := Aside0.mk H
                                      clear H
                                      have p25 : 0 ≤ (x8_2 : Int) := of_decide_eq_true (by first | (with_reducible assumption) | assumption)
                                      have q25 : x8_2 < (((rd_T42 l0_2 x5_1).f1).size : Int) := of_decide_eq_true (by first | (with_reducible assumption) | assumption)
                                      have hx25 := bt_at ((rd_T42 l0_2 x5_1).f1) x8_2
                                      replace p25 := eq_true p25
                                      replace q25 := eq_true q25
                                      have p32 : 0 ≤ (x8_2 : Int) := of_decide_eq_true (by first | (with_reducible assumption) | assumption)
                                      have q32 : x8_2 < (((rd_T42 l0_2 x5_1).f1).size : Int) := of_decide_eq_true (by first | (with_reducible assumption) | assumption)
                                      have hx32 := bt_at ((rd_T42 l0_2 x5_1).f1) x8_2
                                      replace p32 := eq_true p32
                                      replace q32 := eq_true q32
                                      go_wp2
                                      go_roundg k2
                                      case measure => have := HK1.out; have := HK2.out; omega
                                      case rel => exact ⟨((x7_2 ++ (⟨#[92]⟩ : ByteArray)) ++ (((rd_T42 l0_2 x5_1).f1).extract (x8_2 : Int).toNat ((wrap64 (x8_2 + 1)) : Int).toNat)), (wrap64 (x8_2 + 1)), (by first | rfl | (simp; done) | (simp [*]; done)), (by first | rfl | (simp; done) | (simp [*]; done)), H', ⟨by have := HK1.out; have := HK2.out; omega⟩, ⟨by (with_reducible repeat (first | refine blk_drewN ?_ _ | refine blk_drew ?_ | refine blk_alloc ?_ _)); exact BK148.out⟩, ⟨by repeat (first | (with_reducible first | exact HB.out | apply below_alloc | apply pw_below_drewN | apply below_drew1 | refine below_set ?_ GE148.out) | exact HB.out)⟩⟩
                                    · rw [if_neg c38] at H
                                      exact absurd H (by simp)
                                  · rw [if_neg c37] at H
                                    exact absurd H (by simp)
                                · rw [if_neg c36] at H
                                  exact absurd H (by simp)
                              · rw [if_neg c34] at H
                                exact absurd H (by simp)
                            · rw [if_neg c33] at H
                              have c33b0 : ((bt ((rd_T42 l0_2 x5_1).f1) x8_2) == 92) = false := beq_eq_false_iff_ne.mpr c33
                              have c33b1 : ((bt ((rd_T42 l0_2 x5_1).f1) x8_2) != 92) = true := bne_iff_ne.mpr c33
                              have c39b0 := eq_true (of_decide_eq_true (by first | (with_reducible assumption) | assumption) : 0 ≤ x8_2)
                              by_cases c40 : x8_2 ≤ (wrap64 (x8_2 + 1))
                              · rw [if_pos c40] at H
                                have c40b0 := eq_true c40
                                have c40b1 : decide (x8_2 ≤ (wrap64 (x8_2 + 1))) = true := decide_eq_true c40
                                by_cases c41 : (wrap64 (x8_2 + 1)) ≤ (((rd_T42 l0_2 x5_1).f1).size : Int)
                                · rw [if_pos c41] at H
                                  have c41b0 := eq_true c41
                                  have c41b1 : decide ((wrap64 (x8_2 + 1)) ≤ (((rd_T42 l0_2 x5_1).f1).size : Int)) = true := decide_eq_true c41
                                  by_cases c42 : x7_2.size + (((rd_T42 l0_2 x5_1).f1).extract (x8_2 : Int).toNat ((wrap64 (x8_2 + 1)) : Int).toNat).size ≤ 9223372036854775807
                                  · rw [if_pos c42] at H
                                    have c42b0 := eq_true c42
                                    have c42b1 : decide (x7_2.size + (((rd_T42 l0_2 x5_1).f1).extract (x8_2 : Int).toNat ((wrap64 (x8_2 + 1)) : Int).toNat).size ≤ 9223372036854775807) = true := decide_eq_true c42
                                    try have c42b2 : (9223372036854775807 < x7_2.size + (((rd_T42 l0_2 x5_1).f1).extract (x8_2 : Int).toNat ((wrap64 (x8_2 + 1)) : Int).toNat).size) = False := eq_false (Nat.not_lt.2 c42)
                                    have H' := Aside0.mk H
                                    clear H
                                    have p25 : 0 ≤ (x8_2 : Int) := of_decide_eq_true (by first | (with_reducible assumption) | assumption)
                                    have q25 : x8_2 < (((rd_T42 l0_2 x5_1).f1).size : Int) := of_decide_eq_true (by first | (with_reducible assumption) | assumption)
                                    have hx25 := bt_at ((rd_T42 l0_2 x5_1).f1) x8_2
                                    replace p25 := eq_true p25
                                    replace q25 := eq_true q25
                                    have p32 : 0 ≤ (x8_2 : Int) := of_decide_eq_true (by first | (with_reducible assumption) | assumption)
                                    have q32 : x8_2 < (((rd_T42 l0_2 x5_1).f1).size : Int) := of_decide_eq_true (by first | (with_reducible assumption) | assumption)
                                    have hx32 := bt_at ((rd_T42 l0_2 x5_1).f1) x8_2
                                    replace p32 := eq_true p32
                                    replace q32 := eq_true q32
                                    go_wp2
                                    go_roundg k2
                                    case measure => have := HK1.out; have := HK2.out; omega
                                    case rel => exact ⟨(x7_2 ++ (((rd_T42 l0_2 x5_1).f1).extract (x8_2 : Int).toNat ((wrap64 (x8_2 + 1)) : Int).toNat)), (wrap64 (x8_2 + 1)), (by first | rfl | (simp; done) | (simp [*]; done)), (by first | rfl | (simp; done) | (simp [*]; done)), H', ⟨by have := HK1.out; have := HK2.out; omega⟩, ⟨by (with_reducible repeat (first | refine blk_drewN ?_ _ | refine blk_drew ?_ | refine blk_alloc ?_ _)); exact BK148.out⟩, ⟨by repeat (first | (with_reducible first | exact HB.out | apply below_alloc | apply pw_below_drewN | apply below_drew1 | refine below_set ?_ GE148.out) | exact HB.out)⟩⟩
                                  · rw [if_neg c42] at H
                                    exact absurd H (by simp)
                                · rw [if_neg c41] at H
                                  exact absurd H (by simp)
                              · rw [if_neg c40] at H
                                exact absurd H (by simp)
                        · rw [if_neg c24] at H
                          exact absurd H (by simp)
                      · rw [if_neg c23] at H
                        have c23b0 : decide (x8_2 < (((rd_T42 l0_2 x5_1).f1).size : Int)) = false := decide_eq_false c23
                        clear c23
                        by_cases c43 : x7_2.size + 1 ≤ 9223372036854775807
                        · rw [if_pos c43] at H
                          have c43b0 := eq_true c43
                          have c43b1 : decide (x7_2.size + 1 ≤ 9223372036854775807) = true := decide_eq_true c43
                          try have c43b2 : (9223372036854775807 < x7_2.size + 1) = False := eq_false (Nat.not_lt.2 c43)
                          by_cases c44 : x4_1.size + 2 ≤ 9223372036854775807
                          · rw [if_pos c44] at H
                            have c44b0 := eq_true c44
                            have c44b1 : decide (x4_1.size + 2 ≤ 9223372036854775807) = true := decide_eq_true c44
                            try have c44b2 : (9223372036854775807 < x4_1.size + 2) = False := eq_false (Nat.not_lt.2 c44)
                            by_cases c45 : 0 ≤ x5_1
                            · rw [if_pos c45] at H
                              have c45b0 : decide (0 ≤ x5_1) = true := decide_eq_true c45
                              clear c45
                              by_cases c46 : x5_1 < (l0_2.length : Int)
                              · rw [if_pos c46] at H
                                have c46b0 : decide (x5_1 < (l0_2.length : Int)) = true := decide_eq_true c46
                                clear c46
                                by_cases c47 : (x4_1 ++ (⟨#[59, 32]⟩ : ByteArray)).size + ((rd_T42 l0_2 x5_1).f0).size ≤ 9223372036854775807
                                · rw [if_pos c47] at H
                                  have c47b0 := eq_true c47
                                  have c47b1 : decide ((x4_1 ++ (⟨#[59, 32]⟩ : ByteArray)).size + ((rd_T42 l0_2 x5_1).f0).size ≤ 9223372036854775807) = true := decide_eq_true c47
                                  try have c47b2 : (9223372036854775807 < (x4_1 ++ (⟨#[59, 32]⟩ : ByteArray)).size + ((rd_T42 l0_2 x5_1).f0).size) = False := eq_false (Nat.not_lt.2 c47)
                                  try have c47b3 := c47b2
                                  try simp only [ByteArray.size_append, h59, h61, h34, h92, h47] at c47b3
                                  by_cases c48 : ((x4_1 ++ (⟨#[59, 32]⟩ : ByteArray)) ++ ((rd_T42 l0_2 x5_1).f0)).size + 1 ≤ 9223372036854775807
                                  · rw [if_pos c48] at H
                                    have c48b0 := eq_true c48
                                    have c48b1 : decide (((x4_1 ++ (⟨#[59, 32]⟩ : ByteArray)) ++ ((rd_T42 l0_2 x5_1).f0)).size + 1 ≤ 9223372036854775807) = true := decide_eq_true c48
                                    try have c48b2 : (9223372036854775807 < ((x4_1 ++ (⟨#[59, 32]⟩ : ByteArray)) ++ ((rd_T42 l0_2 x5_1).f0)).size + 1) = False := eq_false (Nat.not_lt.2 c48)
                                    try have c48b3 := c48b2
                                    try simp only [ByteArray.size_append, h59, h61, h34, h92, h47] at c48b3
                                    by_cases c49 : (((x4_1 ++ (⟨#[59, 32]⟩ : ByteArray)) ++ ((rd_T42 l0_2 x5_1).f0)) ++ (⟨#[61]⟩ : ByteArray)).size + (x7_2 ++ (⟨#[34]⟩ : ByteArray)).size ≤ 9223372036854775807
                                    · rw [if_pos c49] at H
                                      have c49b0 := eq_true c49
                                      have c49b1 : decide ((((x4_1 ++ (⟨#[59, 32]⟩ : ByteArray)) ++ ((rd_T42 l0_2 x5_1).f0)) ++ (⟨#[61]⟩ : ByteArray)).size + (x7_2 ++ (⟨#[34]⟩ : ByteArray)).size ≤ 9223372036854775807) = true := decide_eq_true c49
                                      try have c49b2 : (9223372036854775807 < (((x4_1 ++ (⟨#[59, 32]⟩ : ByteArray)) ++ ((rd_T42 l0_2 x5_1).f0)) ++ (⟨#[61]⟩ : ByteArray)).size + (x7_2 ++ (⟨#[34]⟩ : ByteArray)).size) = False := eq_false (Nat.not_lt.2 c49)
                                      try have c49b3 := c49b2
                                      try simp only [ByteArray.size_append, h59, h61, h34, h92, h47] at c49b3
                                      have H' := Aside0.mk H
                                      clear H
                                      have hcz50_0 : wr.cell? ⟨gb148, 0, none⟩ = some (.string a0_0) := (blk_cell BK148.out 0).trans rfl
                                      have hcz50_1 : wr.cell? ⟨gb148, 1, none⟩ = some (.string a0_1) := (blk_cell BK148.out 1).trans rfl
                                      have hcz50_2 : wr.cell? ⟨gb148, 2, none⟩ = some (.slice (some ad150) l0_2.length c0_2) := (blk_cell BK148.out 2).trans rfl
                                      have hfz50_0 := blk_frozen BK148.out 0
                                      have hfz50_1 := blk_frozen BK148.out 1
                                      have hfz50_2 := blk_frozen BK148.out 2
                                      have p153 : 0 ≤ (x5_1 : Int) := of_decide_eq_true (by first | (with_reducible assumption) | assumption)
                                      have q153 : x5_1 < (l0_2.length : Int) := of_decide_eq_true (by first | (with_reducible assumption) | assumption)
                                      obtain ⟨ad153, e153, hx153_0, hx153_1⟩ := at_T42 HR0_2.out x5_1 p153 q153
                                      obtain rfl : ad150 = ad153 := (by injection e153)
                                      replace hx153_0 := (HB.out.cell (World.block_lt_of_cell? w _ hx153_0)).trans hx153_0
                                      replace hx153_1 := (HB.out.cell (World.block_lt_of_cell? w _ hx153_1)).trans hx153_1
                                      replace p153 := eq_true p153
                                      replace q153 := eq_true q153
                                      go_wp2
                                      go_roundg k2
                                      case measure => have := HK1.out; have := HK2.out; omega
                                      case rel => exact ⟨((((x4_1 ++ (⟨#[59, 32]⟩ : ByteArray)) ++ ((rd_T42 l0_2 x5_1).f0)) ++ (⟨#[61]⟩ : ByteArray)) ++ (x7_2 ++ (⟨#[34]⟩ : ByteArray))), (wrap64 (x5_1 + 1)), (by first | rfl | (simp; done) | (simp [*]; done)), (by first | rfl | (simp; done) | (simp [*]; done)), H', ⟨by have := HK1.out; have := HK2.out; omega⟩, ⟨by (with_reducible repeat (first | refine blk_drewN ?_ _ | refine blk_drew ?_ | refine blk_alloc ?_ _)); exact BK148.out⟩, ⟨by repeat (first | (with_reducible first | exact HB.out | apply below_alloc | apply pw_below_drewN | apply below_drew1 | refine below_set ?_ GE148.out) | exact HB.out)⟩⟩
                                    · rw [if_neg c49] at H
                                      exact absurd H (by simp)
                                  · rw [if_neg c48] at H
                                    exact absurd H (by simp)
                                · rw [if_neg c47] at H
                                  exact absurd H (by simp)
                              · rw [if_neg c46] at H
                                exact absurd H (by simp)
                            · rw [if_neg c45] at H
                              exact absurd H (by simp)
                          · rw [if_neg c44] at H
                            exact absurd H (by simp)
                        · rw [if_neg c43] at H
                          exact absurd H (by simp)
              · rw [if_neg c11] at H
                exact absurd H (by simp)
            · rw [if_neg c10] at H
              have c10b0 : decide (x5_1 < (l0_2.length : Int)) = false := decide_eq_false c10
              clear c10
              simp only [Option.some.injEq, Prod.mk.injEq] at H
              obtain ⟨rfl, rfl⟩ := H
              have hcz51_0 : wr.cell? ⟨gb148, 0, none⟩ = some (.string a0_0) := (blk_cell BK148.out 0).trans rfl
              have hcz51_1 : wr.cell? ⟨gb148, 1, none⟩ = some (.string a0_1) := (blk_cell BK148.out 1).trans rfl
              have hcz51_2 : wr.cell? ⟨gb148, 2, none⟩ = some (.slice A0_2 l0_2.length c0_2) := (blk_cell BK148.out 2).trans rfl
              have hfz51_0 := blk_frozen BK148.out 0
              have hfz51_1 := blk_frozen BK148.out 1
              have hfz51_2 := blk_frozen BK148.out 2
              go_wp2
              go_ret2
              exact ⟨by first | rfl | (simp [errW_none, errW_some] <;> rfl) | (simp [*, errW_none, errW_some] <;> rfl), by repeat (first | (with_reducible first | exact HB.out | apply below_alloc | apply pw_below_drewN | apply below_drew1 | refine below_set ?_ GE148.out) | exact HB.out)⟩
      · rw [if_neg c5] at H
        exact absurd H (by simp)
    · rw [if_neg c4] at H
      exact absurd H (by simp)
  · replace c3 := Bool.eq_false_iff.mpr c3
    subst c3
    have H1 : (some ((⟨#[]⟩ : ByteArray), 70)) = some (r1, r2) := by rw [if_neg (show ¬ (false = true) by decide)] at H; exact H
    clear H
    have H := H1
    clear H1
    simp only [Option.some.injEq, Prod.mk.injEq] at H
    obtain ⟨rfl, rfl⟩ := H
    go_enter Try.func14, Try.ntmps14
    go_wp2_with (first | ((with_reducible refine gate_dst (N := 1) rfl ?_); refine box_event ?hg (N := 1) ?hd (cs := #[.string a0_0, .string a0_1, .slice A0_2 l0_2.length c0_2]) (t := 25) ?hr ?_; (case hd => rfl); (case hg => rfl); (case hr => first | (go_simp; done) | (go_simp; rfl)); intro gb148 hg w52 hbox hb; have n0_ := Aside0.mk (below_step (by repeat (first | (with_reducible first | exact HB.out | apply below_alloc | apply pw_below_drewN | apply below_drew1) | exact HB.out)) hb); have n1_ := Aside0.mk (hbox); have n2_ := Aside0.mk ((by rw [hg]; exact (below_size (by repeat (first | (with_reducible first | exact HB.out | apply below_alloc | apply pw_below_drewN | apply below_drew1) | exact HB.out))) : w.heap.size ≤ gb148)); have n3_ := Aside0.mk ((by rw [hg]; exact (below_size (by repeat (first | (with_reducible first | exact HB.out | apply below_alloc | apply pw_below_drewN | apply below_drew1) | exact HB.out))) : w.heap.size ≤ gb148)); clear HB; have HB := n0_; have BK148 := n1_; have GW148 := n2_; have GE148 := n3_; clear n0_ n1_ n2_ n3_; clear hb hbox hg; have hcz53_0 : w52.cell? ⟨gb148, 0, none⟩ = some (.string a0_0) := (blk_cell BK148.out 0).trans rfl; have hcz53_1 : w52.cell? ⟨gb148, 1, none⟩ = some (.string a0_1) := (blk_cell BK148.out 1).trans rfl; have hcz53_2 : w52.cell? ⟨gb148, 2, none⟩ = some (.slice A0_2 l0_2.length c0_2) := (blk_cell BK148.out 2).trans rfl; have hfz53_0 := blk_frozen BK148.out 0; have hfz53_1 := blk_frozen BK148.out 1; have hfz53_2 := blk_frozen BK148.out 2) | ((with_reducible refine gate_callee (f := 18) rfl ?_); refine goesL_ (some 10) rfl rfl Try.func18 (by kernel_rfl) rfl #[.agg #[.string a0_0, .string a0_1, .slice A0_2 l0_2.length c0_2]] rfl (by (try simp only [List.map_toArray, List.map_cons, List.map_nil]); first | done | rfl | (simp only [List.length_drop, List.length_take]; rfl)) ?_; (with_reducible refine (posthornref08_Right.calls k a0_0 a0_1 _ _ l0_2 false _ ?side1 ?side2 A2.out).mono ?_); (case side1 => repeat (first | exact (Kd.C_below HR0_2.out HB.out) | (with_reducible refine Kd.C_alloc ?_ _) | (with_reducible refine Kd.C_drewN ?_ _) | (with_reducible refine Kd.C_drew ?_))); (case side2 => exact HC0_2.out); rintro e w54 ⟨rfl, hb⟩; refine ⟨_, rfl, ?_⟩; have n0_ := Aside0.mk (blk_below (g := gb148) (o := .cells #[.string a0_0, .string a0_1, .slice A0_2 l0_2.length c0_2] 25 (0, 0)) (by (with_reducible repeat (first | refine blk_drewN ?_ _ | refine blk_drew ?_ | refine blk_alloc ?_ _)); exact BK148.out) hb); have n1_ := Aside0.mk (below_step (by repeat (first | (with_reducible first | exact HB.out | apply below_alloc | apply pw_below_drewN | apply below_drew1 | refine below_set ?_ GE148.out) | exact HB.out)) hb); clear BK148; clear HB; have BK148 := n0_; have HB := n1_; clear n0_ n1_; (try clear hb); (try clear hb2); (try clear hk); (try clear hi)))
    go_ret2
    exact ⟨by first | rfl | (simp [errW_none, errW_some] <;> rfl) | (simp [*, errW_none, errW_some] <;> rfl), by repeat (first | (with_reducible first | exact HB.out | apply below_alloc | apply pw_below_drewN | apply below_drew1 | refine below_set ?_ GE148.out) | exact HB.out)⟩

end Go.Proofs.Ytdnehnjcbdkgcaa.PKindReads
namespace Go.Proofs.Ytdnehnjcbdkgcaa
set_option linter.unusedVariables false
set_option linter.unusedSimpArgs false
open Go.RowKit Go.Shelf Go.Proofs.YtdnehnjcbdkgcaaW.PrintWords PKindReads

theorem bt_St {l : List Int} (h : Bytes l) (i : Int) : bt (St l) i = rd l i := by rw [← rd_bytesOf, bytesOf_St h]
theorem sign_all : ∀ c : Fin 256, posthornref08_sign.f 20 (c.val : Int) = some (sgnB (c.val : Int)) := by decide +kernel
theorem sign_ev {c : Int} (h0 : 0 ≤ c) (h1 : c ≤ 255) : Ev (fun k => posthornref08_sign.f k c) (sgnB c) := by
  refine Ev.mono (fun k => posthornref08_sign.mono c k) 20 ?_
  have h := sign_all ⟨c.toNat, by omega⟩
  rwa [show ((c.toNat : Nat) : Int) = c by omega] at h
theorem token_loop (l : List Int) (hb : Bytes l) (hl : l.length ≤ 4611686018427387904) : ∀ m i : Nat, i + m = l.length → Ev (fun k => posthornref08_Token.l0 k (St l) (i : Int)) ((l.drop i).all sgnB && (!l.isEmpty && decide (l.length ≤ 64))) := by
  intro m
  induction m with
  | zero =>
    intro i hi
    refine Ev.step (by intro k; rw [posthornref08_Token.l0]) ?_
    rw [St_size]
    refine Ev.neg (by omega) ?_
    rw [List.drop_eq_nil_of_le (by omega), List.all_nil, Bool.true_and]
    by_cases h : l = []
    · subst h
      exact Ev.neg (by simp) (Ev.done _)
    · have hp : 0 < l.length := by rcases l with _ | _ <;> simp_all
      refine Ev.pos (by omega) ?_
      rw [show l.isEmpty = false by cases l <;> simp_all, show decide ((l.length : Int) ≤ 64) = decide (l.length ≤ 64) by rw [decide_eq_decide]; omega]
      exact Ev.done _
  | succ m ih =>
    intro i hi
    have hlt : i < l.length := by omega
    have hr := hb.rd i
    have ih2 := ih (i + 1) (by omega)
    refine Ev.step (by intro k; rw [posthornref08_Token.l0]) ?_
    rw [St_size, bt_St hb]
    refine Ev.pos (by omega) ?_
    refine Ev.pos (by omega) ?_
    refine Ev.bind (sign_ev hr.1 hr.2) ?_
    rw [List.drop_eq_getElem_cons hlt, ← rd_lt l i hlt, List.all_cons]
    by_cases h : sgnB (rd l (i : Int)) = true
    · refine Ev.pos h ?_
      rw [h, Bool.true_and, wrap64_id _ (by omega) (by omega)]
      exact ih2
    · refine Ev.neg h ?_
      rw [show sgnB (rd l (i : Int)) = false by simpa using h]
      exact Ev.done _
theorem token_ev {l : List Int} (hb : Bytes l) (hl : l.length ≤ 4611686018427387904) : Ev (fun k => posthornref08_Token.f k (St l)) (tokenB l) := by
  have h := token_loop l hb hl l.length 0 (by omega)
  rw [List.drop_zero] at h
  unfold tokenB
  rw [Bool.and_assoc]
  exact h
theorem lower_loop (l : List Int) (hb : Bytes l) (hl : l.length ≤ 140737488351232) : ∀ m i : Nat, i + m = l.length → ∀ acc : List Int, acc.length = i → Ev (fun k => posthornref04_Lower.l0 k (St l) acc (i : Int)) (St (acc ++ lowL (l.drop i))) := by
  intro m
  induction m with
  | zero =>
    intro i hi acc ha
    refine Ev.step (by intro k; rw [posthornref04_Lower.l0]) ?_
    rw [St_size]
    refine Ev.neg (by omega) ?_
    rw [List.drop_eq_nil_of_le (by omega), show lowL [] = [] from rfl, List.append_nil]
    exact Ev.done _
  | succ m ih =>
    intro i hi acc ha
    have hlt : i < l.length := by omega
    have hr := hb.rd i
    have ih2 := ih (i + 1) (by omega)
    refine Ev.step (by intro k; rw [posthornref04_Lower.l0]) ?_
    rw [St_size, bt_St hb, wrap64_id ((i : Int) + 1) (by omega) (by omega)]
    refine Ev.pos (by omega) ?_
    refine Ev.pos (by omega) ?_
    rw [List.drop_eq_getElem_cons hlt, ← rd_lt l i hlt]
    have e : ∀ c, acc ++ lowL (c :: l.drop (i + 1)) = (acc ++ [lowC c]) ++ lowL (l.drop (i + 1)) := fun c => by simp [lowL]
    rw [e]
    have ih3 := ih2 (acc ++ [lowC (rd l (i : Int))]) (by simp [ha])
    by_cases h1 : rd l (i : Int) ≥ 65
    · refine Ev.pos h1 ?_
      by_cases h2 : rd l (i : Int) ≤ 90
      · refine Ev.pos h2 ?_
        refine Ev.pos (by omega) ?_
        rw [show (rd l (i : Int) + 32) % 256 = lowC (rd l (i : Int)) by unfold lowC; rw [if_pos ⟨h1, h2⟩]; omega]
        exact ih3
      · refine Ev.neg h2 ?_
        refine Ev.pos (by omega) ?_
        have e2 : lowC (rd l (i : Int)) = rd l (i : Int) := by unfold lowC; rw [if_neg (by omega)]
        rw [e2] at ih3 ⊢
        exact ih3
    · refine Ev.neg h1 ?_
      refine Ev.pos (by omega) ?_
      have e2 : lowC (rd l (i : Int)) = rd l (i : Int) := by unfold lowC; rw [if_neg (by omega)]
      rw [e2] at ih3 ⊢
      exact ih3
theorem lower_ev {l : List Int} (hb : Bytes l) (hl : l.length ≤ 140737488351232) : Ev (fun k => posthornref04_Lower.f k (St l)) (St (lowL l)) := by
  have h := lower_loop l hb hl l.length 0 (by omega) [] rfl
  rw [List.drop_zero] at h
  exact h
set_option linter.unusedSectionVars false
section
variable (t s : ByteArray) (ps : List Pm) (i : Nat) (hi : i < ps.length) (hn : ps.length ≤ 4294967296)
include hi hn
theorem right_l2 (hp : PsB ps) (p1 : List Int) (hb : Bytes p1) (z : ByteArray) (r : Bool) (hr : Ev (fun k => posthornref08_Right.l0 k ((i + 1 : Nat) : Int) t s (ps.map toS)) r) : ∀ m j : Nat, j + m = i → Ev (fun k => posthornref08_Right.l2 k (i : Int) (j : Int) t s (ps.map toS) (St p1) z) (if p1 ∈ ((ps.take i).drop j).map Prod.fst then false else r) := by
  intro m
  induction m with
  | zero =>
    intro j hj
    refine Ev.step (by intro k; rw [posthornref08_Right.l2]) ?_
    refine Ev.neg (by omega) ?_
    rw [List.drop_eq_nil_of_le (by rw [List.length_take]; omega), if_neg (by simp), wrap64_id _ (by omega) (by omega)]
    exact hr
  | succ m ih =>
    intro j hj
    have hlt : j < ps.length := by omega
    have hlt2 : j < (ps.take i).length := by rw [List.length_take]; omega
    have ih2 := ih (j + 1) (by omega)
    refine Ev.step (by intro k; rw [posthornref08_Right.l2]) ?_
    rw [List.length_map]
    refine Ev.pos (by omega) ?_
    refine Ev.pos (by omega) ?_
    refine Ev.pos (by omega) ?_
    rw [rd_toS ps j hlt, List.drop_eq_getElem_cons hlt2, List.map_cons, List.getElem_take]
    have hq := St_tl (hp _ (List.getElem_mem hlt)).1 hb
    by_cases h : ps[j].1 = p1
    · refine Ev.pos (hq.2 h) ?_
      rw [if_pos (by rw [h]; exact List.mem_cons_self)]
      exact Ev.done _
    · refine Ev.neg (fun e => h (hq.1 e)) ?_
      rw [wrap64_id _ (by omega) (by omega), show (if p1 ∈ ps[j].1 :: ((ps.take i).drop (j + 1)).map Prod.fst then false else r) = (if p1 ∈ ((ps.take i).drop (j + 1)).map Prod.fst then false else r) by
        simp only [List.mem_cons, show ¬ p1 = ps[j].1 from fun e => h e.symm, false_or]]
      exact ih2
theorem right_l1 (z : ByteArray) (p2 : List Int) (hb : Bytes p2) (hl : p2.length ≤ 4294967296) (r : Bool) (hr : Ev (fun k => posthornref08_Right.l2 k (i : Int) 0 t s (ps.map toS) z (St p2)) r) : ∀ m j : Nat, j + m = p2.length → Ev (fun k => posthornref08_Right.l1 k (i : Int) (j : Int) t s (ps.map toS) z (St p2)) ((p2.drop j).all prtB && r) := by
  intro m
  induction m with
  | zero =>
    intro j hj
    refine Ev.step (by intro k; rw [posthornref08_Right.l1]) ?_
    rw [St_size]
    refine Ev.neg (by omega) ?_
    rw [List.drop_eq_nil_of_le (by omega), List.all_nil, Bool.true_and]
    exact hr
  | succ m ih =>
    intro j hj
    have hlt : j < p2.length := by omega
    have ih2 := ih (j + 1) (by omega)
    refine Ev.step (by intro k; rw [posthornref08_Right.l1]) ?_
    rw [St_size, bt_St hb]
    refine Ev.pos (by omega) ?_
    refine Ev.pos (by omega) ?_
    rw [List.drop_eq_getElem_cons hlt, ← rd_lt p2 j hlt, List.all_cons]
    by_cases h1 : rd p2 (j : Int) < 32
    · refine Ev.pos h1 ?_
      rw [show prtB (rd p2 (j : Int)) = false by unfold prtB; rw [decide_eq_false (by omega)]; rfl]
      exact Ev.done _
    · refine Ev.neg h1 ?_
      by_cases h2 : rd p2 (j : Int) > 126
      · refine Ev.pos h2 ?_
        rw [show prtB (rd p2 (j : Int)) = false by unfold prtB; rw [decide_eq_false (show ¬ rd p2 (j : Int) ≤ 126 by omega), Bool.and_false]]
        exact Ev.done _
      · refine Ev.neg h2 ?_
        rw [show prtB (rd p2 (j : Int)) = true by unfold prtB; rw [decide_eq_true (by omega), decide_eq_true (by omega)]; rfl, Bool.true_and, wrap64_id _ (by omega) (by omega)]
        exact ih2
end

theorem right_loop (t s : ByteArray) (ps : List Pm) (hn : ps.length ≤ 4294967296) (hp : PsB ps) (hl : ∀ p ∈ ps, p.1.length ≤ 4294967296 ∧ p.2.length ≤ 4294967296) : ∀ m i : Nat, i + m = ps.length → Ev (fun k => posthornref08_Right.l0 k (i : Int) t s (ps.map toS)) (parB ((ps.take i).map Prod.fst) (ps.drop i)) := by
  intro m
  induction m with
  | zero =>
    intro i hi
    refine Ev.step (by intro k; rw [posthornref08_Right.l0]) ?_
    rw [List.length_map]
    refine Ev.neg (by omega) ?_
    rw [List.drop_eq_nil_of_le (by omega), show ∀ q, parB q [] = true from fun q => by rw [parB]]
    exact Ev.done _
  | succ m ih =>
    intro i hi
    have hlt : i < ps.length := by omega
    have ih2 := ih (i + 1) (by omega)
    have hb := hp _ (List.getElem_mem hlt)
    have hll := hl _ (List.getElem_mem hlt)
    refine Ev.step (by intro k; rw [posthornref08_Right.l0]) ?_
    rw [List.length_map, rd_toS ps i hlt]
    refine Ev.pos (by omega) ?_
    refine Ev.pos (by omega) ?_
    rw [List.drop_eq_getElem_cons hlt, parB_step]
    rw [take_succ_at ps i hlt, List.map_append] at ih2
    have hl2 := right_l2 t s ps i hlt hn hp ps[i].1 hb.1
    have hl1 := right_l1 t s ps i hlt hn
    generalize ps[i] = p at *
    obtain ⟨p1, p2⟩ := p
    simp only [toS, List.map_cons, List.map_nil] at *
    have hbad : Ev (fun k => posthornref08_Right.j2 k (i : Int) true t s (ps.map toS) (St p1) (St p2)) false := by
      refine Ev.step (by intro k; rw [posthornref08_Right.j2]) ?_
      exact Ev.pos rfl (Ev.done _)
    refine Ev.bind (token_ev hb.1 (by omega)) ?_
    by_cases h1 : tokenB p1 = true
    · refine Ev.pos h1 ?_
      refine Ev.bind (lower_ev hb.1 (by omega)) ?_
      have hq := St_tl (lowL_bytes hb.1) hb.1
      by_cases h2 : lowL p1 = p1
      · refine Ev.pos (hq.2 h2) ?_
        rw [show smallB p1 = true from (smallB_iff p1).2 ⟨h1, h2⟩, Bool.true_and]
        have hz := St_size p2
        refine Ev.step (by intro k; rw [posthornref08_Right.j2]) ?_
        by_cases h3 : p2.length ≤ 256
        · refine Ev.neg (fun h => by have h3 : ((St p2).size : Int) > 256 := of_decide_eq_true h; rw [hz] at h3; omega) ?_
          have h5 := hl1 (St p1) p2 hb.2 hll.2 _ (hl2 (St p2) _ ih2 i 0 (by omega)) p2.length 0 (by omega)
          rw [List.drop_zero, List.drop_zero] at h5
          have e : (valueB p2 && (!decide (p1 ∈ (ps.take i).map Prod.fst) && parB ((ps.take i).map Prod.fst ++ [p1]) (ps.drop (i + 1)))) = (p2.all prtB && (if p1 ∈ (ps.take i).map Prod.fst then false else parB ((ps.take i).map Prod.fst ++ [p1]) (ps.drop (i + 1)))) := by
            unfold valueB
            rw [decide_eq_true h3, Bool.and_true]
            by_cases h4 : p1 ∈ (ps.take i).map Prod.fst
            · rw [if_pos h4, decide_eq_true h4]; rfl
            · rw [if_neg h4, decide_eq_false h4]; rfl
          rw [e]
          exact h5
        · refine Ev.pos (decide_eq_true (show ((St p2).size : Int) > 256 by rw [hz]; omega)) ?_
          rw [show valueB p2 = false by unfold valueB; rw [decide_eq_false h3, Bool.and_false]]
          exact Ev.done _
      · refine Ev.neg (fun e => h2 (hq.1 e)) ?_
        rw [show smallB p1 = false by unfold smallB; rw [decide_eq_false h2, Bool.and_false], Bool.false_and]
        exact hbad
    · refine Ev.neg h1 ?_
      rw [show smallB p1 = false by unfold smallB; rw [show tokenB p1 = false by simpa using h1]; rfl, Bool.false_and]
      exact hbad
theorem right_ev {t s : List Int} {ps : List Pm} (hk : KOk t s ps) : Ev (fun k => posthornref08_Right.f k (St t) (St s) (ps.map toS)) (rightB t s ps) := by
  have htl := hk.tl
  have hsl := hk.sl
  have hbad : Ev (fun k => posthornref08_Right.j0 k true (St t) (St s) (ps.map toS)) false := by
    refine Ev.step (by intro k; rw [posthornref08_Right.j0]) ?_
    exact Ev.pos rfl (Ev.done _)
  have ev : rightB t s ps = (tokenB t && (tokenB s && (decide (lowL t = t) && (decide (lowL s = s) && (decide (ps.length ≤ 16) && parB [] ps))))) := by
    unfold rightB smallB
    cases parB [] ps <;> cases tokenB t <;> cases tokenB s <;> cases decide (lowL t = t) <;> cases decide (lowL s = s) <;> cases decide (ps.length ≤ 16) <;> rfl
  rw [ev]
  refine Ev.of (by funext k; rw [posthornref08_Right.f]) ?_
  refine Ev.bind (token_ev hk.tb (by omega)) ?_
  by_cases h1 : tokenB t = true
  · refine Ev.pos h1 ?_
    rw [h1, Bool.true_and]
    refine Ev.bind (token_ev hk.sb (by omega)) ?_
    by_cases h2 : tokenB s = true
    · refine Ev.pos h2 ?_
      rw [h2, Bool.true_and]
      refine Ev.bind (lower_ev hk.tb (by omega)) ?_
      have hq1 := St_tl (lowL_bytes hk.tb) hk.tb
      by_cases h3 : lowL t = t
      · refine Ev.pos (hq1.2 h3) ?_
        rw [decide_eq_true h3, Bool.true_and]
        refine Ev.bind (lower_ev hk.sb (by omega)) ?_
        have hq2 := St_tl (lowL_bytes hk.sb) hk.sb
        by_cases h4 : lowL s = s
        · refine Ev.pos (hq2.2 h4) ?_
          rw [decide_eq_true h4, Bool.true_and, List.length_map]
          refine Ev.step (by intro k; rw [posthornref08_Right.j0]) ?_
          by_cases h5 : ps.length ≤ 16
          · refine Ev.neg (by rw [decide_eq_false (by omega)]; decide) ?_
            rw [decide_eq_true h5, Bool.true_and]
            exact right_loop (St t) (St s) ps hk.n hk.psb (fun p hp => ⟨(hk.p1 p hp).2, (hk.p2 p hp).2⟩) ps.length 0 (by omega)
          · refine Ev.pos (by rw [decide_eq_true]; omega) ?_
            rw [decide_eq_false h5]
            exact Ev.done _
        · refine Ev.neg (fun e => h4 (hq2.1 e)) ?_
          rw [decide_eq_false h4]
          exact hbad
      · refine Ev.neg (fun e => h3 (hq1.1 e)) ?_
        rw [decide_eq_false h3]
        exact hbad
    · refine Ev.neg h2 ?_
      rw [show tokenB s = false by simpa using h2]
      exact hbad
  · refine Ev.neg h1 ?_
    rw [show tokenB t = false by simpa using h1]
    exact hbad

theorem e59 : (⟨#[59, 32]⟩ : ByteArray) = St [59, 32] := rfl
theorem e61 : (⟨#[61]⟩ : ByteArray) = St [61] := rfl
theorem e34 : (⟨#[34]⟩ : ByteArray) = St [34] := rfl
theorem e92 : (⟨#[92]⟩ : ByteArray) = St [92] := rfl
theorem e47 : (⟨#[47]⟩ : ByteArray) = St [47] := rfl
theorem one_at (l : List Int) (j : Nat) (h : j < l.length) : (l.take (j + 1)).drop j = [rd l (j : Int)] := by
  rw [take_succ_rd l j h, List.drop_append_of_le_length (by rw [List.length_take]; omega), List.drop_eq_nil_of_le (by rw [List.length_take]; omega), List.nil_append]
theorem write_l1 (t s : ByteArray) (ps : List Pm) (i : Nat) (hi : i < ps.length) (hn : ps.length ≤ 4294967296) (a : List Int) (ha : a.length ≤ 4294967296) (p1 p2 : List Int) (hp : toS ps[i] = ⟨St p1, St p2⟩) (h1 : p1.length ≤ 4294967296) (hb : Bytes p2) (h2 : p2.length ≤ 4294967296) (r : ByteArray × Int)
    (hr : Ev (fun k => posthornref08_Write.l0 k (St (a ++ [59, 32] ++ p1 ++ [61] ++ ([34] ++ escL p2 ++ [34]))) ((i + 1 : Nat) : Int) t s (ps.map toS)) r) : ∀ m j : Nat, j + m = p2.length → Ev (fun k => posthornref08_Write.l1 k (St a) (i : Int) (St p2) (St ([34] ++ escL (p2.take j))) (j : Int) t s (ps.map toS)) r := by
  intro m
  induction m with
  | zero =>
    intro j hj
    have hje : p2.take j = p2 := by rw [show j = p2.length by omega, List.take_length]
    have hel := escL_len p2
    refine Ev.step (by intro k; rw [posthornref08_Write.l1]) ?_
    rw [hje, St_size, List.length_map, rd_toS ps i hi, hp]
    refine Ev.neg (by omega) ?_
    simp only [e34, e59, e61, St_append]
    refine Ev.pos (by rw [St_size]; simp only [List.length_append, List.length_cons, List.length_nil]; omega) ?_
    refine Ev.pos (by rw [St_size]; omega) ?_
    refine Ev.pos (by omega) ?_
    refine Ev.pos (by omega) ?_
    refine Ev.pos (by simp only [St_size, List.length_append, List.length_cons, List.length_nil]; omega) ?_
    refine Ev.pos (by simp only [St_size, List.length_append, List.length_cons, List.length_nil]; omega) ?_
    refine Ev.pos (by simp only [St_size, List.length_append, List.length_cons, List.length_nil]; omega) ?_
    rw [wrap64_id _ (by omega) (by omega)]
    exact hr
  | succ m ih =>
    intro j hj
    have hlt : j < p2.length := by omega
    have ih2 := ih (j + 1) (by omega)
    have hel := escL_len (p2.take j)
    have htl : (p2.take j).length ≤ p2.length := by rw [List.length_take]; omega
    rw [escL_succ p2 j hlt] at ih2
    have hr := hb.rd j
    have hone := one_at p2 j hlt
    refine Ev.step (by intro k; rw [posthornref08_Write.l1]) ?_
    rw [St_size, bt_St hb, wrap64_id ((j : Int) + 1) (by omega) (by omega), show (((j : Nat) : Int) + 1) = ((j + 1 : Nat) : Int) by omega, Int.toNat_natCast, Int.toNat_natCast, St_extract, hone]
    generalize rd p2 (j : Int) = c at *
    refine Ev.pos (by omega) ?_
    refine Ev.pos (by omega) ?_
    simp only [e92, St_append]
    by_cases c1 : c = 34
    · refine Ev.pos c1 ?_
      refine Ev.pos (by rw [St_size]; simp only [List.length_append, List.length_cons, List.length_nil]; omega) ?_
      refine Ev.pos (by omega) ?_
      refine Ev.pos (by omega) ?_
      refine Ev.pos (by simp only [St_size, List.length_append, List.length_cons, List.length_nil]; omega) ?_
      rw [show escC c = [92] ++ [c] by unfold escC; rw [if_pos (.inl c1)]; rfl] at ih2
      simpa only [List.append_assoc] using ih2
    · refine Ev.neg c1 ?_
      by_cases c2 : c = 92
      · refine Ev.pos c2 ?_
        refine Ev.pos (by rw [St_size]; simp only [List.length_append, List.length_cons, List.length_nil]; omega) ?_
        refine Ev.pos (by omega) ?_
        refine Ev.pos (by omega) ?_
        refine Ev.pos (by simp only [St_size, List.length_append, List.length_cons, List.length_nil]; omega) ?_
        rw [show escC c = [92] ++ [c] by unfold escC; rw [if_pos (.inr c2)]; rfl] at ih2
        simpa only [List.append_assoc] using ih2
      · refine Ev.neg c2 ?_
        refine Ev.pos (by omega) ?_
        refine Ev.pos (by omega) ?_
        refine Ev.pos (by simp only [St_size, List.length_append, List.length_cons, List.length_nil]; omega) ?_
        rw [show escC c = [c] by unfold escC; rw [if_neg (by omega)]] at ih2
        simpa only [List.append_assoc] using ih2
theorem write_loop {t s : List Int} {ps : List Pm} (hk : KOk t s ps) (hR : RightIs t s ps) (z1 z2 : ByteArray) : ∀ m i : Nat, i + m = ps.length → Ev (fun k => posthornref08_Write.l0 k (St (writeL t s (ps.take i))) (i : Int) z1 z2 (ps.map toS)) (St (writeL t s ps), 0) := by
  intro m
  induction m with
  | zero =>
    intro i hi
    refine Ev.step (by intro k; rw [posthornref08_Write.l0]) ?_
    rw [List.length_map]
    refine Ev.neg (by omega) ?_
    rw [show i = ps.length by omega, List.take_length]
    exact Ev.done _
  | succ m ih =>
    intro i hi
    have hlt : i < ps.length := by omega
    have hn := hk.n
    have ih2 := ih (i + 1) (by omega)
    have hwl := write_len hR i
    have hp1 := hk.p1 _ (List.getElem_mem hlt)
    have hp2 := hk.p2 _ (List.getElem_mem hlt)
    rw [write_succ t s ps i hlt] at ih2
    have hl1 := write_l1 z1 z2 ps i hlt hn (writeL t s (ps.take i)) (by omega) ps[i].1 ps[i].2 rfl hp1.2 hp2.1 hp2.2
    refine Ev.step (by intro k; rw [posthornref08_Write.l0]) ?_
    rw [List.length_map, rd_toS ps i hlt]
    refine Ev.pos (by omega) ?_
    refine Ev.pos (by omega) ?_
    generalize ps[i] = p at *
    obtain ⟨p1, p2⟩ := p
    simp only [toS] at *
    generalize writeL t s (ps.take i) = a at *
    simp only [e59, e61, e34, St_append]
    refine Ev.bind (token_ev hp2.1 (by omega)) ?_
    by_cases hv : tokenB p2 = true
    · refine Ev.pos hv ?_
      refine Ev.pos (by rw [St_size]; omega) ?_
      refine Ev.pos (by simp only [St_size, List.length_append, List.length_cons, List.length_nil]; omega) ?_
      refine Ev.pos (by simp only [St_size, List.length_append, List.length_cons, List.length_nil]; omega) ?_
      refine Ev.pos (by simp only [St_size, List.length_append, List.length_cons, List.length_nil]; omega) ?_
      rw [wrap64_id _ (by omega) (by omega), show ((i : Int) + 1) = ((i + 1 : Nat) : Int) by omega]
      rw [show parW (p1, p2) = [59, 32] ++ p1 ++ [61] ++ p2 by unfold parW valW; simp only; rw [if_pos hv]] at ih2
      simpa only [List.append_assoc] using ih2
    · refine Ev.neg hv ?_
      rw [show parW (p1, p2) = [59, 32] ++ p1 ++ [61] ++ ([34] ++ escL p2 ++ [34]) by unfold parW valW; simp only; rw [if_neg hv]] at ih2
      exact hl1 _ (by simpa only [List.append_assoc] using ih2) p2.length 0 (by omega)
def writeR (t s : List Int) (ps : List Pm) : List Int × Int := if rightB t s ps = true then (writeL t s ps, 0) else ([], 70)
theorem write_ev {t s : List Int} {ps : List Pm} (hk : KOk t s ps) : Ev (fun k => posthornref08_Write.f k (St t) (St s) (ps.map toS)) (St (writeR t s ps).1, (writeR t s ps).2) := by
  have htl := hk.tl
  have hsl := hk.sl
  refine Ev.of (by funext k; rw [posthornref08_Write.f]) ?_
  refine Ev.bind (right_ev hk) ?_
  unfold writeR
  by_cases h : rightB t s ps = true
  · rw [if_pos h]
    refine Ev.pos h ?_
    simp only [e47, St_append]
    refine Ev.pos (by rw [St_size]; omega) ?_
    refine Ev.pos (by simp only [St_size, List.length_append, List.length_cons, List.length_nil]; omega) ?_
    have hw := write_loop hk (right_is h) (St t) (St s) ps.length 0 (by omega)
    rw [List.take_zero, show writeL t s [] = t ++ [47] ++ s by simp [writeL]] at hw
    exact hw
  · rw [if_neg h]
    exact Ev.neg h (Ev.done _)
theorem rget_ev (ps : List Pm) (n : List Int) (hp : PsB ps) (hn : Bytes n) (hl : ps.length ≤ 4294967296) (t s : ByteArray) : ∀ m i : Nat, i + m = ps.length → Ev (fun k => posthornref08_Get.l0 k (St n) (i : Int) t s (ps.map toS)) (St (getR (ps.drop i) n).1, (getR (ps.drop i) n).2) := by
  intro m
  induction m with
  | zero =>
    intro i hi
    refine Ev.step (by intro k; rw [posthornref08_Get.l0]) ?_
    rw [List.length_map]
    refine Ev.neg (by omega) ?_
    rw [List.drop_eq_nil_of_le (by omega)]
    exact Ev.done _
  | succ m ih =>
    intro i hi
    have hlt : i < ps.length := by omega
    refine Ev.step (by intro k; rw [posthornref08_Get.l0]) ?_
    have ih2 := ih (i + 1) (by omega)
    rw [List.length_map]
    refine Ev.pos (by omega) ?_
    refine Ev.pos (by omega) ?_
    rw [rd_toS ps i hlt, List.drop_eq_getElem_cons hlt, getR]
    have hq := St_tl (hp _ (List.getElem_mem hlt)).1 hn
    by_cases h : ps[i].1 = n
    · rw [if_pos h]
      exact Ev.pos (hq.2 h) (Ev.done _)
    · rw [if_neg h]
      refine Ev.neg (fun e => h (hq.1 e)) ?_
      rw [wrap64_id _ (by omega) (by omega)]
      exact ih2
set_option linter.unusedSectionVars false
section
variable {t s : List Int} {ps : List Pm} {A : Option Addr} {c : Nat} {w : World}
theorem rget_any (n : List Int) (hp : PsB ps) (hn : Bytes n) (hl : ps.length ≤ 4294967296) (hP : PRow w A ps) (hc : ps.length ≤ c) :
    Calls Try.prog 16 #[.agg #[.string (St t), .string (St s), .slice A ps.length c], .string (St n)] w fun e w' => e = .returned (.tuple #[.string (St (getR ps n).1), .bool (getR ps n).2]) ∧ Below w.heap.size w w' := by
  obtain ⟨k, hk⟩ := (rget_ev ps n hp hn hl (St t) (St s) ps.length 0 (by omega)).get
  have h := posthornref08_Get.calls k (St t) (St s) A c (ps.map toS) (St n) _ _ w (by rw [List.length_map]; exact hP) (by rw [List.length_map]; exact hc) hk
  rwa [List.length_map] at h
theorem rright_any (hk : KOk t s ps) (hP : PRow w A ps) (hc : ps.length ≤ c) :
    Calls Try.prog 18 #[.agg #[.string (St t), .string (St s), .slice A ps.length c]] w fun e w' => e = .returned (.bool (rightB t s ps)) ∧ Below w.heap.size w w' := by
  obtain ⟨k, hk2⟩ := (right_ev hk).get
  have h := posthornref08_Right.calls k (St t) (St s) A c (ps.map toS) _ w (by rw [List.length_map]; exact hP) (by rw [List.length_map]; exact hc) hk2
  rwa [List.length_map] at h
theorem rwrite_any (hk : KOk t s ps) (hP : PRow w A ps) (hc : ps.length ≤ c) :
    Calls Try.prog 14 #[.agg #[.string (St t), .string (St s), .slice A ps.length c]] w fun e w' => e = .returned (.tuple #[.string (St (writeR t s ps).1), .int .i64 (writeR t s ps).2]) ∧ Below w.heap.size w w' := by
  obtain ⟨k, hk2⟩ := (write_ev hk).get
  have h := posthornref08_Write.calls k (St t) (St s) A c (ps.map toS) _ _ w (by rw [List.length_map]; exact hP) (by rw [List.length_map]; exact hc) hk2
  rwa [List.length_map] at h
end
end Go.Proofs.Ytdnehnjcbdkgcaa
