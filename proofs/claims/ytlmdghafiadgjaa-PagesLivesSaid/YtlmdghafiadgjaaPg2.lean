/- pages: put, get, a page's sum, walked. -/
import Derived.Test.YtlmdghafiadgjaaPg1
import Derived.Test.YtlmdghafiadgjaaDk
import Derived.Laws.BitsLemmas
import Derived.BigQuiet
namespace Go.Proofs.Ytlmdghafiadgjaa
set_option linter.unusedVariables false
set_option linter.unusedSimpArgs false
open Go.RowKit Go.Proofs.YtlmdghafiadgjaaW.PrintWords

theorem wraps_u64 (n : Int) (h₀ : 0 ≤ n) (h₁ : n < 2 ^ 64) : IntKind.u64.wrap n = n := by rw [IntKind.wrap_u64]; omega
theorem or_u64 (i : Nat) (x y : Int) (h0 : 0 ≤ x) (h1 : x % 2 ^ i = 0) (h2 : x < 2 ^ 64) (h3 : 0 ≤ y) (h4 : y < 2 ^ i) (h5 : y < 2 ^ 64) : bits .or .u64 x y = x + y := bits_join .u64 64 (by decide) wraps_u64 i x y h0 h1 h2 h3 h4 h5
/-- A page's block. -/
def RowP (w : World) (g : Nat) (xs : List Int) : Prop := w.heap[g]? = some (.cells (nums .u8 xs).toArray 70 (0, 0))
theorem RowP.cell {w : World} {g : Nat} {xs : List Int} (h : RowP w g xs) (j : Nat) (hj : j < xs.length) : w.cell? ⟨g, j, none⟩ = some (.int .u8 (rd xs (j : Int))) := by
  refine (blk_cell h j).trans ?_
  rw [rd_lt xs j hj]
  simp [nums, hj]
theorem RowP.set {w : World} {g : Nat} {xs : List Int} (h : RowP w g xs) (j : Nat) (u : Int) : RowP (w.setCell ⟨g, j, none⟩ (.int .u8 u)) g (xs.set j u) := by
  have h2 := blk_set h j (.int .u8 u)
  unfold RowP
  rw [h2]
  congr 2
  simp [nums, List.map_set]
theorem RowP.keep {w w' : World} {g : Nat} {xs : List Int} (h : RowP w g xs) (hb : w'.heap[g]? = w.heap[g]?) : RowP w' g xs := hb.trans h
theorem RowP.lt {w : World} {g : Nat} {xs : List Int} (h : RowP w g xs) : g < w.heap.size := blk_lt h
theorem RowP.reads {w : World} {g : Nat} {xs : List Int} (h : RowP w g xs) (hl : xs.length ≤ 1000000) {a b : Nat} (hab : a ≤ b) (hb : b ≤ xs.length) : ReadsInt w .u8 (some ⟨g, a, none⟩) (b - a) (seg xs a b) := by
  have hs := seg_len (l := xs) (a := a) hb
  refine ⟨hs, by omega, fun _ => ⟨_, rfl, fun j hj => ?_⟩⟩
  rw [show (⟨g, a, none⟩ : Addr).add j = ⟨g, a + j, none⟩ from by unfold Addr.add; split <;> simp_all]
  rw [h.cell (a + j) (by omega), rd_lt xs (a + j) (by omega)]
  congr 2
  have : (seg xs a b)[j]'(by omega) = xs[a + j] := by simp [seg]
  rw [← this]
  simp [List.getD_eq_getElem?_getD, List.getElem?_eq_getElem (show j < (seg xs a b).length by omega)]
/-- Bytes put into a list. -/
def splice (xs : List Int) (o : Nat) (ys : List Int) : List Int := xs.take o ++ ys ++ xs.drop (o + ys.length)
theorem splice_len {xs ys : List Int} {o : Nat} (h : o + ys.length ≤ xs.length) : (splice xs o ys).length = xs.length := by
  simp [splice]; omega
theorem splice_nil (xs : List Int) (o : Nat) : splice xs o [] = xs := by simp [splice]
theorem splice_snoc {xs ys : List Int} {o : Nat} {u : Int} (h : o + ys.length < xs.length) : (splice xs o ys).set (o + ys.length) u = splice xs o (ys ++ [u]) := by
  unfold splice
  have hl : (xs.take o ++ ys).length = o + ys.length := by simp; omega
  rw [List.set_append_right _ _ (by omega), hl, Nat.sub_self, List.drop_eq_getElem_cons h, List.set_cons_zero]
  simp [Nat.add_assoc]
theorem be_at (n : Nat) : ∀ (v : Int) (k : Nat), k < n → (be n v)[k]? = some (v / 256 ^ (n - 1 - k) % 256) := by
  induction n with
  | zero => intro v k hk; omega
  | succ n ih =>
    intro v k hk
    rw [be]
    by_cases h : k < n
    · rw [List.getElem?_append_left (by rw [be_len]; exact h), ih _ _ h]
      congr 2
      rw [show n + 1 - 1 - k = (n - 1 - k) + 1 by omega, Int.pow_succ, Int.mul_comm, Int.ediv_ediv_of_nonneg (by omega)]
    · obtain rfl : k = n := by omega
      rw [List.getElem?_append_right (by rw [be_len]; exact Nat.le_refl _), be_len]
      simp
theorem be_take_succ (n : Nat) (v : Int) (k : Nat) (h : k < n) : (be n v).take (k + 1) = (be n v).take k ++ [v / 256 ^ (n - 1 - k) % 256] := by
  have hl := be_len n v
  have h2 := be_at n v k h
  rw [List.getElem?_eq_getElem (by omega)] at h2
  injection h2 with h2
  rw [List.take_succ_eq_append_getElem (by omega), h2]
set_option maxRecDepth 100000 in
set_option maxHeartbeats 1000000 in
theorem pput_any (g o n c : Nat) (v : Int) (xs : List Int) (w : World) (h : RowP w g xs) (ho : o + n ≤ xs.length) (hn : n ≤ 8) (hv : 0 ≤ v ∧ v < 18446744073709551616) :
    Calls Try.prog 31 #[.slice (some ⟨g, o, none⟩) n c, .int .u64 v] w fun e w' => e = .returned (.tuple #[]) ∧ RowP w' g (splice xs o (be n v)) ∧ Frame (fun i => i = g) w w' := by
  have H := Lib.hid h
  have HO := Lib.hid ho
  clear h ho
  obtain ⟨hv0, hv1⟩ := hv
  go_enter Try.func31, Try.ntmps31
  go_wp2
  go_loopw [7] (fun s7 wr => ∃ k : Nat, k ≤ n ∧ s7 = .int .i64 k ∧ Hid (RowP wr g (splice xs o ((be n v).take k))) ∧ Hid (Frame (fun i => i = g) w wr)) (fun s7 _ => n - (intOf s7).toNat)
  case atStart => exact ⟨0, Nat.zero_le _, rfl, Lib.hid (by rw [List.take_zero, splice_nil]; exact H.out), Lib.hid (Frame.refl _ _)⟩
  case round =>
    obtain ⟨k, hk, rfl, HR, HF⟩ := hrel
    by_cases hlt : k < n
    · have hlk : ((be n v).take k).length = k := by rw [List.length_take, be_len]; omega
      have hcj := HR.out.cell (o + k) (by have := HO.out; rw [splice_len (by rw [hlk]; omega)]; omega)
      have hfz := blk_frozen HR.out (o + k)
      have HST := Lib.hid (by have h2 := HR.out.set (o + k) (v / 256 ^ (n - 1 - k) % 256); have h3 := splice_snoc (xs := xs) (ys := (be n v).take k) (o := o) (u := v / 256 ^ (n - 1 - k) % 256) (by have := HO.out; omega); rw [hlk] at h3; rw [h3, ← be_take_succ n v k hlt] at h2; exact h2)
      generalize rd (splice xs o ((be n v).take k)) ((o + k : Nat) : Int) = old at *
      clear hlk
      go_wp2
      go_roundw
      case rel => exact ⟨k + 1, by omega, by go_num, Lib.hid (by rw [show (2 : Int) ^ (8 * (n - 1 - k)) = 256 ^ (n - 1 - k) by rw [Int.pow_mul]; rfl]; exact HST.out), Lib.hid (HF.out.setCell (.inl rfl) _)⟩
      case measure => simp [intOf]; omega
    · obtain rfl : k = n := by omega
      have hfin : (be k v).take k = be k v := List.take_of_length_le (by rw [be_len]; exact Nat.le_refl _)
      rw [hfin] at HR
      clear hfin
      go_wp2
      go_end0
      exact ⟨rfl, HR.out, HF.out⟩
theorem ge_take_succ {xs : List Int} (k : Nat) (h : k < xs.length) : ge (xs.take (k + 1)) = ge (xs.take k) * 256 + rd xs (k : Int) := by
  rw [List.take_succ_eq_append_getElem h, ge_snoc, rd_lt xs k h]
set_option maxRecDepth 100000 in
set_option maxHeartbeats 1000000 in
theorem get_any (A : Option Addr) (n c : Nat) (xs : List Int) (w : World) (h : ReadsInt w .u8 A n xs) (hb : Bytes xs) (hn : n ≤ 8) :
    Calls Try.prog 36 #[.slice A n c] w fun e w' => e = .returned (.int .u64 (ge xs)) ∧ w = w' := by
  have hl := h.1
  have H := Lib.hid h
  have HB := Lib.hid hb
  clear h hb
  go_enter Try.func36, Try.ntmps36
  go_wp2
  go_loop [3, 8] (fun s3 s8 => ∃ k : Nat, k ≤ n ∧ s8 = .int .i64 k ∧ s3 = .int .u64 (ge (xs.take k))) (fun _ s8 => n - (intOf s8).toNat)
  case atStart => exact ⟨0, Nat.zero_le _, rfl, rfl⟩
  case round =>
    obtain ⟨k, hk, rfl, rfl⟩ := hrel
    by_cases hlt : k < n
    · obtain ⟨ad, rfl, hc⟩ := H.out.2.2 (by omega)
      have hcj := hc k hlt
      rw [show (.int .u8 (xs.getD k 0) : Value) = .int .u8 (rd xs (k : Int)) from by simp [rd]] at hcj
      have hr := ge_range (HB.out.take k)
      rw [List.length_take, show min k xs.length = k by omega] at hr
      have hp : (256 : Int) ^ k ≤ 256 ^ 7 := by
        have := Nat.pow_le_pow_right (n := 256) (by decide) (show k ≤ 7 by omega)
        exact_mod_cast this
      have hs := ge_take_succ (xs := xs) k (by omega)
      obtain ⟨u0, u1⟩ := HB.out.rd k
      obtain ⟨v0, v1⟩ := hr
      have HS := Lib.hid hs
      have ho := or_u64 8 (ge (xs.take k) * 256) (rd xs (k : Int)) (by omega) (by omega) (by omega) u0 (by omega) (by omega)
      have hv7 : ge (xs.take k) < 72057594037927936 := by omega
      clear hc hs hp v1
      generalize rd xs (k : Int) = u at *
      generalize ge (xs.take k) = v at *
      go_wp2
      go_round
      case rel => exact ⟨k + 1, by omega, by go_num, by rw [HS.out]⟩
      case measure => simp [intOf]; omega
    · obtain rfl : k = n := by omega
      rw [List.take_of_length_le (by omega)]
      go_wp2
      go_ret
      exact ⟨rfl, rfl⟩
/-- The bytes that are in the sum, of the first k. -/
def skp (xs : List Int) (k : Nat) : List Int := xs.take (min k 16) ++ (xs.drop 20).take (k - 20)
theorem skp_lo {xs : List Int} (k : Nat) (h : k < 16) (hl : xs.length = 1024) : skp xs (k + 1) = skp xs k ++ [rd xs (k : Int)] := by
  unfold skp
  rw [show min (k + 1) 16 = k + 1 by omega, show min k 16 = k by omega, show k + 1 - 20 = 0 by omega, show k - 20 = 0 by omega, List.take_succ_eq_append_getElem (by omega), rd_lt xs k (by omega)]
  simp
theorem skp_mid {xs : List Int} (k : Nat) (h : 16 ≤ k) (h2 : k < 20) : skp xs (k + 1) = skp xs k := by
  unfold skp
  rw [show min (k + 1) 16 = 16 by omega, show min k 16 = 16 by omega, show k + 1 - 20 = 0 by omega, show k - 20 = 0 by omega]
theorem skp_hi {xs : List Int} (k : Nat) (h : 20 ≤ k) (h2 : k < 1024) (hl : xs.length = 1024) : skp xs (k + 1) = skp xs k ++ [rd xs (k : Int)] := by
  unfold skp
  rw [show min (k + 1) 16 = 16 by omega, show min k 16 = 16 by omega, show k + 1 - 20 = (k - 20) + 1 by omega, List.take_succ_eq_append_getElem (l := xs.drop 20) (i := k - 20) (by rw [List.length_drop]; omega), rd_lt xs k (by omega), List.append_assoc]
  have e : (xs.drop 20)[k - 20]'(by rw [List.length_drop]; omega) = xs[k]'(by omega) := by
    rw [List.getElem_drop]; congr 1; omega
  rw [e]
theorem skp_all {xs : List Int} (hl : xs.length = 1024) : skp xs 1024 = xs.take 16 ++ xs.drop 20 := by
  unfold skp
  rw [show min 1024 16 = 16 from rfl, List.take_of_length_le (l := xs.drop 20) (by rw [List.length_drop]; omega)]
set_option maxRecDepth 100000 in
set_option maxHeartbeats 1000000 in
theorem sum_any (g : Nat) (xs : List Int) (w : World) (h : RowP w g xs) (hl : xs.length = 1024) (hb : Bytes xs) :
    Calls Try.prog 32 #[.pointer (some ⟨g, 0, none⟩)] w fun e w' => e = .returned (.int .u64 (sumV (xs.take 16 ++ xs.drop 20))) ∧ Below w.heap.size w w' := by
  have H := Lib.hid h
  have HB := Lib.hid hb
  have HLN := Lib.hid hl
  have HV := Lib.hid (sumS_range (xs.take 16 ++ xs.drop 20))
  obtain ⟨V, hV⟩ : ∃ V, V = sumV (xs.take 16 ++ xs.drop 20) := ⟨_, rfl⟩
  rw [← hV]
  have HSV : Hid (V = (sumS (xs.take 16 ++ xs.drop 20)).2 * 65536 + (sumS (xs.take 16 ++ xs.drop 20)).1) := Lib.hid hV
  clear hV
  clear h hb
  go_enter Try.func32, Try.ntmps32
  go_wp2
  go_loopw [3, 4, 8] (fun s3 s4 s8 wr => ∃ k : Nat, k ≤ 1024 ∧ s8 = .int .i64 k ∧ s3 = .int .u64 (sumS (skp xs k)).1 ∧ s4 = .int .u64 (sumS (skp xs k)).2 ∧ Hid (RowP wr g xs) ∧ Hid (Below w.heap.size w wr)) (fun _ _ s8 _ => 1024 - (intOf s8).toNat)
  case atStart => exact ⟨0, Nat.zero_le _, rfl, by simp [skp]; rfl, by simp [skp]; rfl, H, Lib.hid (Below.refl _ _)⟩
  case round =>
    obtain ⟨k, hk, rfl, rfl, rfl, HR, HW⟩ := hrel
    by_cases hlt : k < 1024
    · have hcj := HR.out.cell k (by omega)
      obtain ⟨u0, u1⟩ := HB.out.rd k
      obtain ⟨a0, a1, b0, b1⟩ := sumS_range (skp xs k)
      have HSP := Lib.hid (skp_hi (xs := xs) k)
      have HSL := Lib.hid (skp_lo (xs := xs) k)
      have HSM := Lib.hid (skp_mid (xs := xs) k)
      have HSN := Lib.hid (sumS_snoc (skp xs k) (rd xs (k : Int)))
      generalize hu : rd xs (k : Int) = u at *
      by_cases h16 : k < 16
      · have HE := Lib.hid (HSL.out h16 hl)
        have HE2 := HSN.out
        rw [← HE.out] at HE2
        have HE3 := Lib.hid HE2
        clear HE2
        generalize (sumS (skp xs k)).1 = sa at *
        generalize (sumS (skp xs k)).2 = sb at *
        go_wp2
        go_quiet (fail)
        go_wp2
        go_roundw
        case rel => exact ⟨k + 1, by omega, by go_num, by rw [HE3.out], by rw [HE3.out], HR, Lib.hid (pw_below_drewN HW.out _)⟩
        case measure => simp [intOf]; omega
      · by_cases h20 : k < 20
        · have HE := Lib.hid (HSM.out (by omega) h20)
          generalize hsk : sumS (skp xs k) = sk at *
          have HE3 : Hid (sumS (skp xs (k + 1)) = sk) := Lib.hid (by rw [HE.out, hsk])
          obtain ⟨sa, sb⟩ := sk
          simp only at a0 a1 b0 b1
          clear hsk
          go_wp2
          go_quiet (fail)
          go_wp2
          go_roundw
          case rel => exact ⟨k + 1, by omega, by go_num, by rw [HE3.out], by rw [HE3.out], HR, Lib.hid (pw_below_drewN HW.out _)⟩
          case measure => simp [intOf]; omega
        · have HE := Lib.hid (HSP.out (by omega) hlt hl)
          have HE2 := HSN.out
          rw [← HE.out] at HE2
          have HE3 := Lib.hid HE2
          clear HE2
          generalize (sumS (skp xs k)).1 = sa at *
          generalize (sumS (skp xs k)).2 = sb at *
          go_wp2
          go_quiet (fail)
          go_wp2
          go_roundw
          case rel => exact ⟨k + 1, by omega, by go_num, by rw [HE3.out], by rw [HE3.out], HR, Lib.hid (pw_below_drewN HW.out _)⟩
          case measure => simp [intOf]; omega
    · obtain rfl : k = 1024 := by omega
      rw [skp_all hl]
      have hv := HV.out
      obtain ⟨a0, a1, b0, b1⟩ := hv
      have ho := or_u64 16 ((sumS (xs.take 16 ++ xs.drop 20)).2 * 65536) ((sumS (xs.take 16 ++ xs.drop 20)).1) (by omega) (by omega) (by omega) a0 (by omega) (by omega)
      generalize (sumS (xs.take 16 ++ xs.drop 20)).1 = sa at *
      generalize (sumS (xs.take 16 ++ xs.drop 20)).2 = sb at *
      go_wp2
      go_ret
      exact ⟨by rw [HSV.out]; rfl, HW.out⟩
end Go.Proofs.Ytlmdghafiadgjaa
