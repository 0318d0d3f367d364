/- The document's pages: value, Sum, walked. -/
import Derived.Test.YtlmdghafiadgjaaPgR1
namespace Go.Proofs.Ytlmdghafiadgjaa
set_option linter.unusedVariables false
set_option linter.unusedSimpArgs false
open Go.RowKit Go.Proofs.YtlmdghafiadgjaaW.PrintWords Go.Proofs.YtlmdghafiadgjaaW.PrintLast

theorem u64_id {x : Int} (h0 : 0 ≤ x) (h1 : x < 18446744073709551616) : IntKind.u64.wrap x = x := by
  have e : x % 18446744073709551616 = x := Int.emod_eq_of_lt h0 h1
  simp [IntKind.wrap, IntKind.bits, IntKind.signed, e]
set_option maxRecDepth 100000 in
set_option maxHeartbeats 1000000 in
theorem value_any (A : Option Addr) (n c : Nat) (xs : List Int) (w : World) (h : ReadsInt w .u8 A n xs) (hb : Bytes xs) (hn : n ≤ 8) :
    Calls Try.prog 40 #[.slice A n c] w fun e w' => e = .returned (.int .u64 (ge xs)) ∧ w = w' := by
  have hl := h.1
  have H := Lib.hid h
  have HB := Lib.hid hb
  clear h hb
  go_enter Try.func40, Try.ntmps40
  go_wp2
  go_loop [3, 4] (fun s3 s4 => ∃ k : Nat, k ≤ n ∧ s4 = .int .i64 k ∧ s3 = .int .u64 (ge (xs.take k))) (fun _ s4 => n - (intOf s4).toNat)
  case atStart => exact ⟨0, Nat.zero_le _, rfl, rfl⟩
  case round =>
    obtain ⟨k, hk, rfl, rfl⟩ := hrel
    by_cases hlt : k < n
    · obtain ⟨ad, rfl, hc⟩ := H.out.2.2 (by omega)
      have hcj := hc k hlt
      rw [show (.int .u8 (xs.getD k 0) : Value) = .int .u8 (rd xs (k : Int)) from by simp [rd]] at hcj
      have hr := ge_range (HB.out.take k)
      rw [List.length_take, show min k xs.length = k by omega] at hr
      have hp : (256 : Int) ^ k ≤ 256 ^ 7 := by
        have := Nat.pow_le_pow_right (n := 256) (by decide) (show k ≤ 7 by omega)
        exact_mod_cast this
      have hs := ge_take_succ (xs := xs) k (by omega)
      obtain ⟨u0, u1⟩ := HB.out.rd k
      obtain ⟨v0, v1⟩ := hr
      have HS := Lib.hid hs
      have hv7 : ge (xs.take k) < 72057594037927936 := by omega
      clear hc hs hp v1
      generalize rd xs (k : Int) = u at *
      generalize ge (xs.take k) = v at *
      have hw1 := u64_id (x := 256 * v) (by omega) (by omega)
      have hw2 := u64_id (x := 256 * v + u) (by omega) (by omega)
      have hw3 := u64_id (x := u) (by omega) (by omega)
      go_wp2
      go_round
      case rel => exact ⟨k + 1, by omega, by go_num, by rw [HS.out, Int.mul_comm v 256]⟩
      case measure => simp [intOf]; omega
    · obtain rfl : k = n := by omega
      rw [List.take_of_length_le (by omega)]
      go_wp2
      go_ret
      exact ⟨rfl, rfl⟩
set_option maxRecDepth 100000 in
set_option maxHeartbeats 1000000 in
theorem rsum_any (A : Option Addr) (n c : Nat) (xs : List Int) (w : World) (h : ReadsInt w .u8 A n xs) (hb : Bytes xs) :
    Calls Try.prog 34 #[.slice A n c] w fun e w' => e = .returned (.int .u64 (sumV xs)) ∧ w = w' := by
  have hl := h.1
  have H := Lib.hid h
  have HB := Lib.hid hb
  have hmx := h.2.1
  have HV := Lib.hid (sumS_range xs)
  have HSV : Hid (sumV xs = (sumS xs).2 * 65536 + (sumS xs).1) := Lib.hid rfl
  clear h hb
  go_enter Try.func34, Try.ntmps34
  go_wp2
  go_loop [3, 4, 5] (fun s3 s4 s5 => ∃ k : Nat, k ≤ n ∧ s5 = .int .i64 k ∧ s3 = .int .i64 (sumS (xs.take k)).1 ∧ s4 = .int .i64 (sumS (xs.take k)).2) (fun _ _ s5 => n - (intOf s5).toNat)
  case atStart => exact ⟨0, Nat.zero_le _, rfl, rfl, rfl⟩
  case round =>
    obtain ⟨k, hk, rfl, rfl, rfl⟩ := hrel
    by_cases hlt : k < n
    · obtain ⟨ad, rfl, hc⟩ := H.out.2.2 (by omega)
      have hcj := hc k hlt
      rw [show (.int .u8 (xs.getD k 0) : Value) = .int .u8 (rd xs (k : Int)) from by simp [rd]] at hcj
      obtain ⟨u0, u1⟩ := HB.out.rd k
      obtain ⟨a0, a1, b0, b1⟩ := sumS_range (xs.take k)
      have hs := sumS_snoc (xs.take k) (rd xs (k : Int))
      rw [show xs.take k ++ [rd xs (k : Int)] = xs.take (k + 1) by rw [List.take_succ_eq_append_getElem (by omega), rd_lt xs k (by omega)]] at hs
      have HS := Lib.hid hs
      clear hc hs
      generalize rd xs (k : Int) = u at *
      generalize (sumS (xs.take k)).1 = sa at *
      generalize (sumS (xs.take k)).2 = sb at *
      obtain ⟨x, hxe⟩ : ∃ x, (sa + u) % 65521 = x := ⟨_, rfl⟩
      have ht1 : (sa + u).tmod 65521 = x := (tmod_pos (sa + u) 65521 (by omega)).trans hxe
      have hx0 : 0 ≤ x ∧ x < 65521 := by omega
      obtain ⟨y, hye⟩ : ∃ y, (sb + x) % 65521 = y := ⟨_, rfl⟩
      have ht2 : (sb + x).tmod 65521 = y := (tmod_pos (sb + x) 65521 (by omega)).trans hye
      have hy0 : 0 ≤ y ∧ y < 65521 := by omega
      have HS2 : Hid (sumS (xs.take (k + 1)) = (x, y)) := Lib.hid (by rw [HS.out, ← hye, ← hxe])
      have hw1 := wrap64_id (sa + u) (by omega) (by omega)
      have hw2 := wrap64_id (sb + x) (by omega) (by omega)
      have hw3 := wrap64_id x (by omega) (by omega)
      have hw4 := wrap64_id y (by omega) (by omega)
      clear hxe hye HS
      go_wp2
      go_round
      case rel => exact ⟨k + 1, by omega, by go_num, by rw [HS2.out], by rw [HS2.out]⟩
      case measure => simp [intOf]; omega
    · obtain rfl : k = n := by omega
      rw [List.take_of_length_le (by omega)]
      obtain ⟨a0, a1, b0, b1⟩ := HV.out
      generalize (sumS xs).1 = sa at *
      generalize (sumS xs).2 = sb at *
      have hw1 := u64_id (x := sa) (by omega) (by omega)
      have hw2 := u64_id (x := sb) (by omega) (by omega)
      have hw3 := u64_id (x := 65536 * sb) (by omega) (by omega)
      have hw4 := u64_id (x := 65536 * sb + sa) (by omega) (by omega)
      go_wp2
      go_ret
      exact ⟨by rw [HSV.out, Int.mul_comm sb]; rfl, rfl⟩
end Go.Proofs.Ytlmdghafiadgjaa
