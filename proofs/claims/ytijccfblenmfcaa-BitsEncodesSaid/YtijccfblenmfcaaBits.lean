/- The package bits: signs, widths, lengths, Encode. -/
import Derived.Test.YtijccfblenmfcaaBld
namespace Go.Proofs.Ytijccfblenmfcaa
open Go.RowKit Go.Shelf Go.Proofs.YtijccfblenmfcaaW.PrintWords

def signTab : ByteArray := ⟨#[65, 66, 67, 68, 69, 70, 71, 72, 73, 74, 75, 76, 77, 78, 79, 80, 81, 82, 83, 84, 85, 86, 87, 88, 89, 90, 97, 98, 99, 100, 101, 102, 103, 104, 105, 106, 107, 108, 109, 110, 111, 112, 113, 114, 115, 116, 117, 118, 119, 120, 121, 122, 48, 49, 50, 51, 52, 53, 54, 55, 56, 57, 43, 47]⟩
/-- The sign of a number. -/
def sgn (v : Int) : Int := bt signTab v

def fitsV (n w : Int) : Int := if w < 0 ∨ w > 76 ∨ w % 4 ≠ 0 ∨ n < 0 then 1 else if n > 1048576 then 2 else 0

theorem fits_any (n m : Int) (w : World) :
    Calls Try.prog 23 #[.int .i64 n, .int .i64 m] w fun e w' => e = .returned (.int .i64 (fitsV n m)) ∧ w = w' := by
  by_cases h1 : m < 0
  · have e : fitsV n m = 1 := by rw [fitsV, if_pos (.inl h1)]
    rw [e]
    go_enter Try.func23, Try.ntmps23
    go_wp2
    go_ret
    exact ⟨rfl, rfl⟩
  · by_cases h2 : m > 76
    · have e : fitsV n m = 1 := by rw [fitsV, if_pos (.inr (.inl h2))]
      rw [e]
      have h3 : 76 < m := h2
      go_enter Try.func23, Try.ntmps23
      go_wp2
      go_ret
      exact ⟨rfl, rfl⟩
    · by_cases h3 : m % 4 = 0
      · have b3 : (m % 4 != 0) = false := bne_eq_false_iff_eq.mpr h3
        by_cases h4 : n < 0
        · have e : fitsV n m = 1 := by rw [fitsV, if_pos (by omega)]
          rw [e]
          clear h3
          go_enter Try.func23, Try.ntmps23
          go_wp2
          go_ret
          exact ⟨rfl, rfl⟩
        · by_cases h5 : n > 1048576
          · have e : fitsV n m = 2 := by rw [fitsV, if_neg (by omega), if_pos h5]
            have h6 : 1048576 < n := h5
            rw [e]
            clear h3
            go_enter Try.func23, Try.ntmps23
            go_wp2
            go_ret
            exact ⟨rfl, rfl⟩
          · have e : fitsV n m = 0 := by rw [fitsV, if_neg (by omega), if_neg h5]
            rw [e]
            clear h3
            go_enter Try.func23, Try.ntmps23
            go_wp2
            go_ret
            exact ⟨rfl, rfl⟩
      · have b3 : (m % 4 != 0) = true := bne_iff_ne.mpr h3
        have e : fitsV n m = 1 := by rw [fitsV, if_pos (by omega)]
        rw [e]
        clear h3
        go_enter Try.func23, Try.ntmps23
        go_wp2
        go_ret
        exact ⟨rfl, rfl⟩

theorem sign_ok (v : Int) (w : World) (h0 : 0 ≤ v) (h1 : v ≤ 63) :
    Calls Try.prog 17 #[.int .i64 v] w fun e w' => e = .returned (.tuple #[.int .u8 (sgn v), .bool true]) ∧ w = w' := by
  have hs : ((signTab[v.toNat]'(show v.toNat < signTab.size by rw [show signTab.size = 64 from rfl]; omega)).toNat : Int) = sgn v := bt_at signTab v _
  have HS := Lib.hid hs
  clear hs
  go_enter Try.func17, Try.ntmps17
  go_wp2
  go_ret2
  rw [← HS.out]
  exact ⟨rfl, rfl⟩
theorem sign_no (v : Int) (w : World) (h : v < 0 ∨ 63 < v) :
    Calls Try.prog 17 #[.int .i64 v] w fun e w' => e = .returned (.tuple #[.int .u8 0, .bool false]) ∧ w = w' := by
  rcases h with h | h
  · go_enter Try.func17, Try.ntmps17
    go_wp2
    go_ret2
    exact ⟨rfl, rfl⟩
  · go_enter Try.func17, Try.ntmps17
    go_wp2
    go_ret2
    exact ⟨rfl, rfl⟩

def lenV (n w : Int) : Int := if w = 0 ∨ (n + 2) / 3 * 4 = 0 then (n + 2) / 3 * 4 else (n + 2) / 3 * 4 + ((n + 2) / 3 * 4 - 1) / w * 2
theorem fits_cases (n m : Int) : fitsV n m = 1 ∨ fitsV n m = 2 ∨ (fitsV n m = 0 ∧ 0 ≤ m ∧ m ≤ 76 ∧ m % 4 = 0 ∧ 0 ≤ n ∧ n ≤ 1048576) := by
  unfold fitsV
  by_cases h : m < 0 ∨ m > 76 ∨ m % 4 ≠ 0 ∨ n < 0
  · rw [if_pos h]; exact .inl rfl
  · rw [if_neg h]
    by_cases h2 : n > 1048576
    · rw [if_pos h2]; exact .inr (.inl rfl)
    · rw [if_neg h2]; exact .inr (.inr ⟨rfl, by omega⟩)
set_option maxHeartbeats 400000 in
theorem length_ok (n m : Int) (w : World) (h : fitsV n m = 0) (hm : 0 ≤ m ∧ m ≤ 76) (hn : 0 ≤ n ∧ n ≤ 1048576) :
    Calls Try.prog 16 #[.int .i64 n, .int .i64 m] w fun e w' => e = .returned (.tuple #[.int .i64 (lenV n m), .int .i64 0]) ∧ w = w' := by
  obtain ⟨hm0, hm1⟩ := hm
  obtain ⟨hn0, hn1⟩ := hn
  have HF := Lib.hid (fits_any n m w)
  rw [h] at HF
  clear h
  by_cases h1 : m = 0
  · have e : Hid (lenV n m = (n + 2) / 3 * 4) := Lib.hid (by rw [lenV, if_pos (.inl h1)])
    have b1 : (m == 0) = true := beq_iff_eq.mpr h1
    clear h1
    go_enter Try.func16, Try.ntmps16
    go_wp2_with (first | (go_at_call 23; ((with_reducible refine HF.out.mono ?_); rintro e w' ⟨rfl, rfl⟩)))
    go_ret2
    rw [e.out]
    exact ⟨rfl, rfl⟩
  · have b1 : (m == 0) = false := beq_eq_false_iff_ne.mpr h1
    have hm2 : 1 ≤ m := by omega
    clear h1
    by_cases h2 : (n + 2) / 3 * 4 = 0
    · have e : Hid (lenV n m = (n + 2) / 3 * 4) := Lib.hid (by rw [lenV, if_pos (.inr h2)])
      have b2 : ((n + 2) / 3 * 4 == 0) = true := beq_iff_eq.mpr h2
      clear h2
      go_enter Try.func16, Try.ntmps16
      go_wp2_with (first | (go_at_call 23; ((with_reducible refine HF.out.mono ?_); rintro e w' ⟨rfl, rfl⟩)))
      go_ret2
      rw [e.out]
      exact ⟨rfl, rfl⟩
    · have e : Hid (lenV n m = (n + 2) / 3 * 4 + ((n + 2) / 3 * 4 - 1) / m * 2) := Lib.hid (by rw [lenV, if_neg (by omega)])
      have b2 : ((n + 2) / 3 * 4 == 0) = false := beq_eq_false_iff_ne.mpr h2
      have hd0 : 0 ≤ ((n + 2) / 3 * 4 - 1) / m := Int.ediv_nonneg (by omega) (by omega)
      have hd1 : ((n + 2) / 3 * 4 - 1) / m ≤ (n + 2) / 3 * 4 - 1 := Int.ediv_le_self _ (by omega)
      have hp : 1 ≤ (n + 2) / 3 * 4 := by omega
      clear h2
      go_enter Try.func16, Try.ntmps16
      go_wp2_with (first | (go_at_call 23; ((with_reducible refine HF.out.mono ?_); rintro e w' ⟨rfl, rfl⟩)))
      go_ret2
      rw [e.out]
      exact ⟨rfl, rfl⟩
theorem length_no (n m c : Int) (w : World) (h : fitsV n m = c) (hc : c = 1 ∨ c = 2) :
    Calls Try.prog 16 #[.int .i64 n, .int .i64 m] w fun e w' => e = .returned (.tuple #[.int .i64 0, .int .i64 c]) ∧ w = w' := by
  have HF := Lib.hid (fits_any n m w)
  rw [h] at HF
  clear h
  rcases hc with rfl | rfl
  · go_enter Try.func16, Try.ntmps16
    go_wp2_with (first | (go_at_call 23; ((with_reducible refine HF.out.mono ?_); rintro e w' ⟨rfl, rfl⟩)))
    go_ret2
    exact ⟨rfl, rfl⟩
  · go_enter Try.func16, Try.ntmps16
    go_wp2_with (first | (go_at_call 23; ((with_reducible refine HF.out.mono ?_); rintro e w' ⟨rfl, rfl⟩)))
    go_ret2
    exact ⟨rfl, rfl⟩

def lays137_ren : Go.Shelf.Ren := ⟨fun | 137 => 28 | 217 => 30 | 266 => 32 | n => n, fun | 9 => 9 | 5 => 5 | 3 => 3 | n => n, fun | n => n⟩
theorem lays137 : Go.Proofs.Lays.n137 Try.prog lays137_ren := {
  mixed := by kernel_rfl
  f137 := Try.func28.trans (congrArg some (by kernel_rfl))
  f217 := Try.func30.trans (congrArg some (by kernel_rfl))
  f266 := Try.func32.trans (congrArg some (by kernel_rfl))
  t3 := Try.underlying3
  a3 := Try.isAgg3
  z3 := Try.sizeOf3
  v3 := Try.zeroValue3
  t5 := Try.underlying5
  a5 := Try.isAgg5
  z5 := Try.sizeOf5
  v5 := Try.zeroValue5
  t9 := Try.underlying9
  a9 := Try.isAgg9
  z9 := Try.sizeOf9
  v9 := Try.zeroValue9 }
/-- Where a sign stands among the signs; -1: nowhere. -/
def valV (c : Int) : Int := Lib.indexByte signTab.data.toList c.toNat.toUInt8
theorem index_signs (c : Int) (w : World) : Calls Try.prog 28 #[.string signTab, .int .u8 c] w fun e w' => e = .returned (.int .i64 (valV c)) ∧ w' = w := Any.strings_IndexByte lays137 signTab c w
theorem val_all : ∀ c : Fin 256, (valV (c.val : Int) = -1 ∨ (0 ≤ valV (c.val : Int) ∧ valV (c.val : Int) ≤ 63 ∧ sgn (valV (c.val : Int)) = c.val)) := by decide +kernel
theorem val_cases (c : Int) (h0 : 0 ≤ c) (h1 : c ≤ 255) : valV c = -1 ∨ (0 ≤ valV c ∧ valV c ≤ 63 ∧ sgn (valV c) = c) := by
  have h := val_all ⟨c.toNat, by omega⟩
  rwa [show ((c.toNat : Nat) : Int) = c by omega] at h
theorem sgn_all : ∀ v : Fin 64, valV (sgn (v.val : Int)) = v.val ∧ 0 ≤ sgn (v.val : Int) ∧ sgn (v.val : Int) ≤ 255 ∧ sgn (v.val : Int) ≠ 61 ∧ sgn (v.val : Int) ≠ 13 ∧ sgn (v.val : Int) ≠ 10 := by decide +kernel
theorem sgn_facts (v : Int) (h0 : 0 ≤ v) (h1 : v ≤ 63) : valV (sgn v) = v ∧ 0 ≤ sgn v ∧ sgn v ≤ 255 ∧ sgn v ≠ 61 ∧ sgn v ≠ 13 ∧ sgn v ≠ 10 := by
  have h := sgn_all ⟨v.toNat, by omega⟩
  rwa [show ((v.toNat : Nat) : Int) = v by omega] at h
theorem value_ok (c : Int) (w : World) (h0 : 0 ≤ valV c) (h1 : valV c ≤ 63) :
    Calls Try.prog 20 #[.int .u8 c] w fun e w' => e = .returned (.tuple #[.int .u32 (valV c), .bool true]) ∧ w = w' := by
  have HI := Lib.hid (index_signs c w)
  generalize valV c = v at *
  go_enter Try.func20, Try.ntmps20
  go_wp2_with (first | (go_at_call 28; ((refine HI.out.mono ?_); rintro e w' ⟨rfl, rfl⟩)))
  go_ret2
  exact ⟨rfl, rfl⟩
theorem value_no (c : Int) (w : World) (h : valV c = -1) :
    Calls Try.prog 20 #[.int .u8 c] w fun e w' => e = .returned (.tuple #[.int .u32 4294967295, .bool false]) ∧ w = w' := by
  have HI := Lib.hid (index_signs c w)
  rw [h] at HI
  clear h
  go_enter Try.func20, Try.ntmps20
  go_wp2_with (first | (go_at_call 28; ((refine HI.out.mono ?_); rintro e w' ⟨rfl, rfl⟩)))
  go_ret2
  exact ⟨rfl, rfl⟩
end Go.Proofs.Ytijccfblenmfcaa
