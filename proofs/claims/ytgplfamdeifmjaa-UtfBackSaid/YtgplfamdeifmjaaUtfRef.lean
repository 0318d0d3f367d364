/- The document's utf, function by function. -/
import Derived.Test.YtgplfamdeifmjaaUtfPure
namespace Go.Proofs.Ytgplfamdeifmjaa
open Go.RowKit Go.Proofs.YtgplfamdeifmjaaW.PrintWords

theorem ref_point (p : Int) (w : World) :
    Calls Try.prog 25 #[.int .i32 p] w fun e w' => e = .returned (.bool (isPt p)) ∧ w = w' := by
  by_cases h0 : 0 ≤ p
  · by_cases h1 : p < 55296
    · go_enter Try.func25, Try.ntmps25
      go_wp2
      go_ret
      exact ⟨by rw [(isPt_iff p).2 (by omega)]; rfl, rfl⟩
    · by_cases h2 : p > 57343
      · have d2 : decide (57343 < p) = true := decide_eq_true h2
        go_enter Try.func25, Try.ntmps25
        go_wp2
        all_goals (go_ret; simp [isPt, *]; try omega)
      · have d2 : decide (57343 < p) = false := decide_eq_false h2
        go_enter Try.func25, Try.ntmps25
        go_wp2
        go_ret
        simp [isPt]; omega
  · go_enter Try.func25, Try.ntmps25
    go_wp2
    go_ret
    simp [isPt]; omega

set_option maxHeartbeats 400000 in
theorem rput_no (p : Int) (w : World) (h : isPt p = false) :
    Calls Try.prog 10 #[.int .i32 p] w fun e w' => e = .returned (.tuple #[.slice none 0 0, .int .i64 20]) ∧ Below w.heap.size w w' := by
  go_enter Try.func10, Try.ntmps10
  go_wp2_with (go_at_call 25; refine (ref_point _ _).mono ?_; rintro e w' ⟨rfl, rfl⟩; simp only [h])
  go_ret2
  exact ⟨rfl, Below.refl _ _⟩

set_option maxRecDepth 100000 in
set_option maxHeartbeats 400000 in
theorem rput_1 (p : Int) (w : World) (h : isPt p = true) (h0 : 0 ≤ p) (h1 : p < 128) :
    Calls Try.prog 10 #[.int .i32 p] w (PutEnds w [p]) := by
  go_enter Try.func10, Try.ntmps10
  go_wp2_with (first | (go_at_call 25; refine (ref_point _ _).mono ?_; rintro e w' ⟨rfl, rfl⟩; simp only [h]) | (at_builtin; refine print_append_num (w0 := w) w.heap.size rfl (.tmp 10) (.tmp 13) 22 5 .u8 1 rfl Try.underlying22 infoU8 (by decide) _ [] p rfl rfl (ORow.nil _ _ _ _) (Below.refl _ _) (Nat.le_refl _) (by decide) ?_; intro v1 w1 hO hB _ _; have HO := Lib.hid hO; have HB := Lib.hid hB; clear hO hB))
  go_ret2
  exact ⟨_, rfl, HO.out, HB.out⟩
set_option maxRecDepth 100000 in
set_option maxHeartbeats 400000 in
theorem rput_2 (p : Int) (w : World) (h : isPt p = true) (h0 : 128 ≤ p) (h1 : p < 2048) :
    Calls Try.prog 10 #[.int .i32 p] w (PutEnds w [192 + p / 64, 128 + p % 64]) := by
  go_enter Try.func10, Try.ntmps10
  go_wp2_with (first | (go_at_call 25; refine (ref_point _ _).mono ?_; rintro e w' ⟨rfl, rfl⟩; simp only [h]) | (at_builtin; refine print_append_row (w0 := w) w.heap.size rfl (.tmp 17) (.tmp 26) 22 5 .u8 1 rfl Try.underlying22 infoU8 (by decide) _ [] [192 + p / 64, 128 + p % 64] _ _ _ rfl rfl (ORow.nil _ _ _ _) (lit_reads .u8 _ w _ _ _ _ rfl rfl rfl (by simp)) (below_first _) (by rw [World.size_alloc]; omega) (by decide) ?_; intro v1 w1 hO hB _ _; have HO := Lib.hid hO; have HB := Lib.hid hB; clear hO hB))
  go_ret2
  exact ⟨_, rfl, HO.out, HB.out⟩
set_option maxRecDepth 100000 in
set_option maxHeartbeats 400000 in
theorem rput_3 (p : Int) (w : World) (h : isPt p = true) (h0 : 2048 ≤ p) (h1 : p < 65536) :
    Calls Try.prog 10 #[.int .i32 p] w (PutEnds w [224 + p / 4096, 128 + p / 64 % 64, 128 + p % 64]) := by
  go_enter Try.func10, Try.ntmps10
  go_wp2_with (first | (go_at_call 25; refine (ref_point _ _).mono ?_; rintro e w' ⟨rfl, rfl⟩; simp only [h]) | (at_builtin; refine print_append_row (w0 := w) w.heap.size rfl (.tmp 30) (.tmp 44) 22 5 .u8 1 rfl Try.underlying22 infoU8 (by decide) _ [] [224 + p / 4096, 128 + p / 64 % 64, 128 + p % 64] _ _ _ rfl rfl (ORow.nil _ _ _ _) (lit_reads .u8 _ w _ _ _ _ rfl rfl rfl (by simp)) (below_first _) (by rw [World.size_alloc]; omega) (by decide) ?_; intro v1 w1 hO hB _ _; have HO := Lib.hid hO; have HB := Lib.hid hB; clear hO hB))
  go_ret2
  exact ⟨_, rfl, HO.out, HB.out⟩
set_option maxRecDepth 100000 in
set_option maxHeartbeats 400000 in
theorem rput_4 (p : Int) (w : World) (h : isPt p = true) (h0 : 65536 ≤ p) (h1 : p < 1114112) :
    Calls Try.prog 10 #[.int .i32 p] w (PutEnds w [240 + p / 262144, 128 + p / 4096 % 64, 128 + p / 64 % 64, 128 + p % 64]) := by
  go_enter Try.func10, Try.ntmps10
  go_wp2_with (first | (go_at_call 25; refine (ref_point _ _).mono ?_; rintro e w' ⟨rfl, rfl⟩; simp only [h]) | (at_builtin; refine print_append_row (w0 := w) w.heap.size rfl (.tmp 46) (.tmp 65) 22 5 .u8 1 rfl Try.underlying22 infoU8 (by decide) _ [] [240 + p / 262144, 128 + p / 4096 % 64, 128 + p / 64 % 64, 128 + p % 64] _ _ _ rfl rfl (ORow.nil _ _ _ _) (lit_reads .u8 _ w _ _ _ _ rfl rfl rfl (by simp)) (below_first _) (by rw [World.size_alloc]; omega) (by decide) ?_; intro v1 w1 hO hB _ _; have HO := Lib.hid hO; have HB := Lib.hid hB; clear hO hB))
  go_ret2
  exact ⟨_, rfl, HO.out, HB.out⟩

theorem rput_ok (p : Int) (w : World) (hp : isPt p = true) : Calls Try.prog 10 #[.int .i32 p] w (PutEnds w (putB p)) := by
  have h := isPt_bd hp
  by_cases h1 : p < 128
  · rw [putB_one hp h1]; exact rput_1 p w hp h.1 h1
  · by_cases h2 : p < 2048
    · rw [putB_two hp (by omega) h2]; exact rput_2 p w hp (by omega) h2
    · by_cases h3 : p < 65536
      · rw [putB_three hp (by omega) h3]; exact rput_3 p w hp (by omega) h3
      · rw [putB_four hp (by omega)]; exact rput_4 p w hp (by omega) (by omega)
theorem rput_any (p : Int) (w : World) : Calls Try.prog 10 #[.int .i32 p] w (PutPost p w) := by
  rcases hp : isPt p with _ | _
  · refine (rput_no p w hp).mono fun e w' h => ?_
    obtain ⟨h1, h2⟩ := h
    refine ⟨.slice none 0 0, ?_, ?_, h2⟩
    · rw [h1]; simp [putE, hp]
    · simp only [putB, hp]; exact ORow.nil _ _ _ _
  · have h1 := rput_ok p w hp
    unfold PutPost
    rw [show putE p = 0 by simp [putE, hp]]
    exact h1
theorem putB_bytes (p : Int) : Bytes (putB p) := by
  rcases hp : isPt p with _ | _
  · rw [show putB p = [] by simp [putB, hp]]; exact fun x hx => by cases hx
  · have hb := isPt_bd hp
    by_cases h1 : p < 128
    · rw [putB_one hp h1]; intro x hx; simp at hx; omega
    · by_cases h2 : p < 2048
      · rw [putB_two hp (by omega) h2]; intro x hx; simp at hx; omega
      · by_cases h3 : p < 65536
        · rw [putB_three hp (by omega) h3]; intro x hx; simp at hx; omega
        · rw [putB_four hp (by omega)]; intro x hx; simp at hx; omega

/-- The first byte's digits, as the document takes them. -/
def ld0 (c : Int) (n : Nat) : Int := if n = 3 then c % 16 else if n = 4 then c % 8 else c % 32
theorem nextV_form (l : List Int) (h0 : l.length ≠ 0) (h : (nextV l).2.2 ≠ 0) : nextV l = (0, 0, 20) := by
  unfold nextV at h ⊢
  rw [if_neg h0] at h ⊢
  by_cases h1 : rd l 0 < 128
  · rw [if_pos h1] at h; simp at h
  · rw [if_neg h1] at h ⊢
    by_cases h2 : ldN (rd l 0) = 0 ∨ l.length < ldN (rd l 0)
    · rw [if_pos h2]
    · rw [if_neg h2] at h ⊢
      split at h
      · simp at h
      · rw [if_neg (by assumption)]
theorem ldN_two {c : Int} (h : ldN c = 2) : ldP c = c % 32 := by
  unfold ldN at h; unfold ldP; split at h
  · rw [if_pos (by assumption)]
  · split at h <;> (try split at h) <;> simp at h
theorem ldN_three {c : Int} (h : ldN c = 3) : ldP c = c % 16 := by
  unfold ldN at h; unfold ldP; split at h
  · simp at h
  · split at h
    · rw [if_neg (by assumption), if_pos (by assumption)]
    · split at h <;> simp at h
theorem ldN_four {c : Int} (h : ldN c = 4) : ldP c = c % 8 := by
  unfold ldN at h; unfold ldP; split at h
  · simp at h
  · split at h
    · simp at h
    · split at h
      · rw [if_neg (by assumption), if_neg (by assumption), if_pos (by assumption)]
      · simp at h
theorem ld0_of {c : Int} (h : ldN c ≠ 0) : ldP c = ld0 c (ldN c) := by
  rcases ldN_cases c with e | e | e | e
  · exact absurd e h
  · rw [e, ldN_two e]; rfl
  · rw [e, ldN_three e]; rfl
  · rw [e, ldN_four e]; rfl
/-- The document's search among lengths ends at the one that Next tells. -/
theorem cand_iff (l : List Int) (hby : Bytes l) (n : Nat) (hn2 : 2 ≤ n) (hn : n ≤ l.length) (hx : 128 ≤ rd l 0) :
    (isPt (shiftIn (ld0 (rd l 0) n) (tailOf l n)) = true ∧ putB (shiftIn (ld0 (rd l 0) n) (tailOf l n)) = l.take n) ↔ ((nextV l).2.2 = 0 ∧ (nextV l).2.1 = n) := by
  constructor
  · rintro ⟨hp, he⟩
    have hlen : (putB (shiftIn (ld0 (rd l 0) n) (tailOf l n))).length = n := by rw [he, List.length_take]; omega
    have h := nextV_put _ l hp (by rw [hlen, he])
    rw [h]
    exact ⟨rfl, hlen⟩
  · rintro ⟨h0, hm⟩
    obtain ⟨hp, ht, hl⟩ := nextV_ok l hby h0
    have e : (nextV l).1 = shiftIn (ld0 (rd l 0) n) (tailOf l n) := by
      unfold nextV at h0 hm ⊢
      rw [if_neg (by omega), if_neg (by omega)] at h0 hm ⊢
      by_cases h2 : ldN (rd l 0) = 0 ∨ l.length < ldN (rd l 0)
      · rw [if_pos h2] at h0; simp at h0
      · rw [if_neg h2] at h0 hm ⊢
        split at h0
        · rw [if_pos (by assumption)] at hm ⊢
          simp only at hm ⊢
          rw [ld0_of (fun h => h2 (.inl h)), hm]
        · simp at h0
    rw [← e, ← hm]
    exact ⟨hp, ht.symm⟩

theorem tail_len (l : List Int) (n : Nat) (h : n ≤ l.length) : (tailOf l n).length = n - 1 := by simp [tailOf]; omega
theorem tail_take (l : List Int) (n j : Nat) (h : n ≤ l.length) (h1 : 1 ≤ j) (h2 : j < n) : (tailOf l n).take j = (tailOf l n).take (j - 1) ++ [rd l (j : Int)] := by
  obtain ⟨k, rfl⟩ : ∃ k, j = k + 1 := ⟨j - 1, by omega⟩
  have hl := tail_len l n h
  rw [Nat.add_sub_cancel, take_succ_rd _ _ (by omega), rd_lt _ _ (by omega), rd_lt l _ (by omega)]
  simp [tailOf, Nat.add_comm]

set_option maxRecDepth 100000 in
set_option maxHeartbeats 1000000 in
theorem rnext_ge (A : Option Addr) (l : List Int) (c : Nat) (w : World) (hr : ReadsInt w .u8 A l.length l) (hby : Bytes l) (hc : l.length ≤ c) (h0 : 0 < l.length) (hx : 128 ≤ rd l 0) :
    Calls Try.prog 12 #[.slice A l.length c] w fun e w' => e = .returned (.tuple #[.int .i32 (nextV l).1, .int .i64 ((nextV l).2.1 : Int), .int .i64 (nextV l).2.2]) ∧ Below w.heap.size w w' := by
  have HR := Lib.hid hr
  obtain ⟨ad, rfl, hcell⟩ := hr.at_ 0 (by omega) (by omega)
  rw [show ((0 : Int)).toNat = 0 from rfl, Addr.add_zero'] at hcell
  have hm := hr.2.1
  clear hr
  have hx1 := (hby.rd 0).2
  simp only [Int.natCast_zero] at hx1
  have HBY := Lib.hid hby
  clear hby
  have HX : Hid (128 ≤ rd l 0) := Lib.hid hx
  have HXE : Hid (∀ n, ld0 (rd l 0) n = ld0 (rd l 0) n) := Lib.hid fun _ => rfl
  generalize hxe : rd l 0 = x at hcell hx hx1
  have HX0 := Lib.hid hxe
  clear hxe
  go_enter Try.func12, Try.ntmps12
  go_wp2
  go_loopw [5] (fun s5 wr => ∃ n : Nat, 2 ≤ n ∧ n ≤ 5 ∧ s5 = .int .i64 n ∧ Hid ((nextV l).2.2 = 0 → n ≤ (nextV l).2.1) ∧ Hid (Below w.heap.size w wr)) (fun s5 _ => 5 - (intOf s5).toNat)
  case atStart =>
    refine ⟨2, by omega, by omega, rfl, Lib.hid fun h => ?_, Lib.hid (Below.refl _ _)⟩
    obtain ⟨hp, ht, hl⟩ := nextV_ok l HBY.out h
    rcases (show (nextV l).2.1 = 0 ∨ (nextV l).2.1 = 1 ∨ 2 ≤ (nextV l).2.1 by omega) with e | e | e
    · have := (nextV_len l).2.1 h; omega
    · rw [e] at ht hl
      have hbd := isPt_bd hp
      have h9 := HX.out
      by_cases h1 : (nextV l).1 < 128
      · rw [putB_one hp h1] at ht
        have := take_eq_one.1 ht
        omega
      · exfalso
        by_cases h2 : (nextV l).1 < 2048
        · rw [putB_two hp (by omega) h2] at hl; simp at hl
        · by_cases h3 : (nextV l).1 < 65536
          · rw [putB_three hp (by omega) h3] at hl; simp at hl
          · rw [putB_four hp (by omega)] at hl; simp at hl
    · exact e
  case round =>
    obtain ⟨n, hn2, hn5, rfl, HN, HB⟩ := hrel
    have hcell2 : wr.cell? ad = some (.int .u8 x) := pw_cell_below HB.out hcell
    by_cases hgo : n ≤ 4 ∧ n ≤ l.length
    · obtain ⟨h4, hln⟩ := hgo
      have d1 : decide ((n : Int) ≤ 4) = true := decide_eq_true (by omega)
      have d2 : decide ((n : Int) ≤ (l.length : Int)) = true := decide_eq_true (by omega)
      go_upto_if 37 with (fail)
      go_cut [6] (fun s6 wx => wx = wr ∧ s6 = .int .i32 (if n = 3 then x % 16 else x % 32))
      case first =>
        by_cases h3 : n = 3
        · have E := Lib.hid (show (if n = 3 then x % 16 else x % 32) = x % 16 from if_pos h3)
          have b3 : ((n : Int) == 3) = true := beq_iff_eq.mpr (by omega)
          clear h3
          go_wp2
          go_meet
          exact ⟨rfl, by rw [E.out]⟩
        · have E := Lib.hid (show (if n = 3 then x % 16 else x % 32) = x % 32 from if_neg h3)
          have b3 : ((n : Int) == 3) = false := beq_eq_false_iff_ne.mpr (by omega)
          clear h3
          go_wp2
          go_meet
          exact ⟨rfl, by rw [E.out]⟩
      case rest =>
        obtain ⟨rfl, rfl⟩ := hcut
        have EQ := Lib.hid (show (if n = 4 then x % 8 else if n = 3 then x % 16 else x % 32) = ld0 x n by unfold ld0; split <;> split <;> first | rfl | omega)
        generalize hy : (if n = 3 then x % 16 else x % 32) = y at *
        have HY := Lib.hid hy
        clear hy
        go_upto_if 44 with (fail)
        go_cut [6] (fun s6 wx => wx = wc ∧ s6 = .int .i32 (ld0 x n))
        case first =>
          by_cases h4 : n = 4
          · have E : Hid (ld0 x n = x % 8) := Lib.hid (by rw [← EQ.out, if_pos h4])
            have b3 : ((n : Int) == 4) = true := beq_iff_eq.mpr (by omega)
            clear h4
            go_wp2
            go_meet
            exact ⟨rfl, by rw [E.out]⟩
          · have E : Hid (ld0 x n = y) := Lib.hid (by rw [← EQ.out, if_neg h4])
            have b3 : ((n : Int) == 4) = false := beq_eq_false_iff_ne.mpr (by omega)
            clear h4
            go_wp2
            go_meet
            exact ⟨rfl, by rw [E.out]⟩
        case rest =>
          obtain ⟨rfl, rfl⟩ := hcut
          clear EQ HY
          have hld : 0 ≤ ld0 x n ∧ ld0 x n < 32 := by unfold ld0; split <;> (try split) <;> omega
          have HLD := Lib.hid hld
          obtain ⟨hld0, hld1⟩ := hld
          obtain ⟨W, hW⟩ : ∃ W : World, W = wc := ⟨_, rfl⟩
          subst hW
          go_upto_region 13 with (fail)
          go_wp2
          go_loop [6, 7] (fun s6 s7 => ∃ j : Nat, 1 ≤ j ∧ j ≤ n ∧ s7 = .int .i64 j ∧ s6 = .int .i32 (shiftIn (ld0 x n) ((tailOf l n).take (j - 1))) ∧ 0 ≤ shiftIn (ld0 x n) ((tailOf l n).take (j - 1)) ∧ Hid (shiftIn (ld0 x n) ((tailOf l n).take (j - 1)) < 32 * 64 ^ (j - 1))) (fun _ s7 => n - (intOf s7).toNat)
          case atStart => exact ⟨1, by omega, by omega, rfl, rfl, by simpa [shiftIn] using hld0, Lib.hid (by simpa [shiftIn] using hld1)⟩
          case round =>
            obtain ⟨j, hj1, hjn, rfl, rfl, hs0, hs1⟩ := hrel
            by_cases hlt : j < n
            · have hs2 : shiftIn (ld0 x n) ((tailOf l n).take (j - 1)) < 131072 := by
                have h9 := hs1.out
                rcases (show j = 1 ∨ j = 2 ∨ j = 3 by omega) with e | e | e <;> (rw [e] at h9 ⊢; simp at h9 ⊢; omega)
              obtain ⟨ad2, he2, hcell3⟩ := (HR.out.below HB.out).at_ (j : Int) (by omega) (by omega)
              obtain rfl : ad = ad2 := by injection he2
              simp only [Int.toNat_natCast] at hcell3
              have hyb := HBY.out.rd j
              have HT := Lib.hid (tail_take l n j hln hj1 hlt)
              have HSN : Hid (shiftIn (ld0 x n) ((tailOf l n).take (j + 1 - 1)) = shiftIn (ld0 x n) ((tailOf l n).take (j - 1)) * 64 + rd l (j : Int) % 64) := Lib.hid (by rw [Nat.add_sub_cancel, HT.out, shiftIn_snoc])
              generalize rd l (j : Int) = z at *
              generalize shiftIn (ld0 x n) ((tailOf l n).take (j - 1)) = s at *
              obtain ⟨hy0, hy1⟩ := hyb
              go_wp2
              go_round
              case rel => exact ⟨j + 1, by omega, by omega, by go_num, by rw [HSN.out, Int.mul_comm], by rw [HSN.out]; omega, Lib.hid (by
                rw [HSN.out]
                have h9 := hs1.out
                have h8 : j + 1 - 1 = (j - 1) + 1 := by omega
                rw [h8, Int.pow_succ]; omega)⟩
              case measure => simp [intOf]; omega
            · have hjn2 : j = n := by omega
              subst hjn2
              have HTK : Hid ((tailOf l j).take (j - 1) = tailOf l j) := Lib.hid (List.take_of_length_le (by rw [tail_len l j hln]; omega))
              have HCA : Hid ((isPt (shiftIn (ld0 x j) (tailOf l j)) = true ∧ putB (shiftIn (ld0 x j) (tailOf l j)) = l.take j) ↔ ((nextV l).2.2 = 0 ∧ (nextV l).2.1 = j)) := Lib.hid (by
                have h9 := cand_iff l HBY.out j hn2 hln HX.out
                rw [HX0.out] at h9
                exact h9)
              simp only [HTK.out]
              clear hs1 hs0 HTK
              generalize shiftIn (ld0 x j) (tailOf l j) = p at *
              rcases hp : isPt p with _ | _
              · have HC := Lib.hid (rput_no p W hp)
                have HN2 : Hid ((nextV l).2.2 = 0 → j + 1 ≤ (nextV l).2.1) := Lib.hid (fun h => by
                  have h1 := HN.out h
                  have h2 : ¬ (nextV l).2.1 = j := fun e => by
                    have h3 := (HCA.out.2 ⟨h, e⟩).1
                    rw [hp] at h3; cases h3
                  omega)
                clear hp HCA HN
                go_wp2_with (first | (go_at_call 10; ((with_reducible refine HC.out.mono ?_); rintro e w1 ⟨rfl, hB1⟩; have HB1 := Lib.hid (below_then HB.out HB.out.size hB1); clear hB1)))
                go_quiet (fail)
                go_wp2
                go_roundw
                case rel => exact ⟨j + 1, by omega, by omega, by go_num, HN2, Lib.hid (pw_below_drewN HB1.out _)⟩
                case measure => simp [intOf]; omega
              · have HC := Lib.hid (rput_ok p W hp)
                have HPB := Lib.hid (putB_bytes p)
                obtain ⟨i0, hi0, _, hsz, _⟩ := info_parts infoU8
                obtain ⟨hcut0, hA1, hC1⟩ := print_take_of (P := Try.prog) (Value.int .u8) (0 : Int) 22 5 .i64 Try.underlying22 hi0 hsz (some ad) c l (j : Int) (by omega) (by omega) hc
                simp only [Int.toNat_natCast] at hcut0 hA1 hC1
                have HRT := Lib.hid (hA1 w HR.out)
                have HTB := Lib.hid (HBY.out.take j)
                have HTL : Hid ((l.take j).length = j) := Lib.hid (by rw [List.length_take]; omega)
                clear hA1 hi0 hsz
                by_cases he : putB p = l.take j
                · have hV : nextV l = (p, j, 0) := by
                    have h1 := nextV_put p l hp (by rw [he, HTL.out])
                    rw [h1, he, HTL.out]
                  have HV := Lib.hid hV
                  have hs : ((strOfNums (putB p)).toList == (strOfNums (l.take j)).toList) = true := by rw [sn_beq HPB.out HTB.out]; exact decide_eq_true he
                  clear hV hp HCA HN he
                  generalize l.take j = q at *
                  generalize putB p = pb at *
                  go_wp2_with (first | (go_at_call 10; ((with_reducible refine HC.out.mono ?_); rintro e w1 ⟨v, rfl, hO1, hB1⟩; have HB1 := Lib.hid (below_then HB.out HB.out.size hB1); have HO1 := Lib.hid hO1; have cv1 := fun k => own_string (P := Try.prog) Try.underlying22 Try.underlying5 Try.underlying9 (ORow.drewN hO1 k); have cv2 := fun k => string_of_reads (P := Try.prog) (A := some ad) (c := c) Try.underlying22 Try.underlying5 Try.underlying9 (HRT.out.below (pw_below_drewN HB1.out k)); clear hB1 hO1)))
                  go_quiet (fail)
                  go_wp2
                  go_ret3
                  rw [HV.out]
                  exact ⟨rfl, pw_below_drewN HB1.out _⟩
                · have HN2 : Hid ((nextV l).2.2 = 0 → j + 1 ≤ (nextV l).2.1) := Lib.hid (fun h => by
                    have h1 := HN.out h
                    have h2 : ¬ (nextV l).2.1 = j := fun e => he (HCA.out.2 ⟨h, e⟩).2
                    omega)
                  have hs : ((strOfNums (putB p)).toList == (strOfNums (l.take j)).toList) = false := by rw [sn_beq HPB.out HTB.out]; exact decide_eq_false he
                  clear hp HCA HN he
                  generalize l.take j = q at *
                  generalize putB p = pb at *
                  go_wp2_with (first | (go_at_call 10; ((with_reducible refine HC.out.mono ?_); rintro e w1 ⟨v, rfl, hO1, hB1⟩; have HB1 := Lib.hid (below_then HB.out HB.out.size hB1); have HO1 := Lib.hid hO1; have cv1 := fun k => own_string (P := Try.prog) Try.underlying22 Try.underlying5 Try.underlying9 (ORow.drewN hO1 k); have cv2 := fun k => string_of_reads (P := Try.prog) (A := some ad) (c := c) Try.underlying22 Try.underlying5 Try.underlying9 (HRT.out.below (pw_below_drewN HB1.out k)); clear hB1 hO1)))
                  go_quiet (fail)
                  go_wp2
                  go_roundw
                  case rel => exact ⟨j + 1, by omega, by omega, by go_num, HN2, Lib.hid (pw_below_drewN HB1.out _)⟩
                  case measure => simp [intOf]; omega
    · have hV : nextV l = (0, 0, 20) := by
        refine nextV_form l (by omega) fun h => ?_
        have h1 := HN.out h
        have h2 := nextV_ok l HBY.out h
        have h3 := (nextV_len l).1
        have h4 := putB_len (nextV l).1
        omega
      have HV := Lib.hid hV
      clear hV
      by_cases h4 : n ≤ 4
      · have d1 : decide ((n : Int) ≤ 4) = true := decide_eq_true (by omega)
        have d2 : decide ((n : Int) ≤ (l.length : Int)) = false := decide_eq_false (by omega)
        go_wp2
        go_ret3
        rw [HV.out]
        exact ⟨rfl, HB.out⟩
      · have d1 : decide ((n : Int) ≤ 4) = false := decide_eq_false (by omega)
        go_wp2
        go_ret3
        rw [HV.out]
        exact ⟨rfl, HB.out⟩
end Go.Proofs.Ytgplfamdeifmjaa
