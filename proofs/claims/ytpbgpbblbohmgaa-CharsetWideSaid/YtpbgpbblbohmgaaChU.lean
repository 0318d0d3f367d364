/- charset.upper: a byte of windows-1252. -/
import Derived.Test.YtpbgpbblbohmgaaCh1
import Derived.Test.YtpbgpbblbohmgaaRow
namespace Go.Proofs.Ytpbgpbblbohmgaa
open Go.RowKit Go.Proofs.YtpbgpbblbohmgaaW.PrintWords
def upTab : List Int := [8364, -1, 8218, 402, 8222, 8230, 8224, 8225, 710, 8240, 352, 8249, 338, -1, 381, -1, -1, 8216, 8217, 8220, 8221, 8226, 8211, 8212, 732, 8482, 353, 8250, 339, -1, 382, 376]
def upC : Array Value := (nums .i32 upTab).toArray
def upV (c : Int) : Int := if c < 128 ∨ 159 < c then c else rd upTab (c - 128)
theorem upC_all : upC.all (·.oneCell') = true := by decide +kernel
theorem upC_size : (Try.prog.info? 69).map (·.size) = some upC.size := by kernel_rfl
theorem upC_at (k : Nat) (hk : k < 32) : upC[k]? = some (.int .i32 (rd upTab (k : Int))) := by
  unfold upC
  rw [List.getElem?_toArray]
  have hl : k < upTab.length := hk
  simp [nums, rd, List.getElem?_eq_getElem hl]
set_option maxRecDepth 100000 in
set_option maxHeartbeats 4000000 in
theorem upper_mid (k : Nat) (w : World) (hk : k < 32) : Calls Try.prog 52 #[.int .u8 (128 + k)] w fun e w' => e = .returned (.int .i32 (rd upTab (k : Int))) ∧ Below w.heap.size w w' := by
  have hat := upC_at k hk
  obtain ⟨v, hv⟩ : ∃ v, rd upTab (k : Int) = v := ⟨_, rfl⟩
  rw [hv] at hat ⊢
  clear hv
  have hk0 : (0 : Int) ≤ (k : Int) := Int.natCast_nonneg _
  have hk1 : (k : Int) < 32 := by omega
  have d1 : decide (128 + (k : Int) < 128) = false := decide_eq_false (by omega)
  have d2 : decide (159 < 128 + (k : Int)) = false := decide_eq_false (by omega)
  have e1 : 128 + (k : Int) - 128 = (k : Int) := by omega
  have HSZ := Lib.hid upC_size
  have HALL := Lib.hid upC_all
  have HS0 : Hid ((Array.replicate 32 (Value.int .i32 0)).size = upC.size) := Lib.hid (by decide +kernel)
  have HU : Hid (Value.agg upC = Value.agg upC) := Lib.hid rfl
  go_enter Try.func52, Try.ntmps52
  go_wp2_with (first
    | ((with_reducible refine at_store_new (x := .tmp 3) (y := .tmp 12) w _ upC HSZ.out (by decide +kernel) HALL.out ?_ ?_ ?_); rfl; rfl))
  go_ret
  exact ⟨rfl, (below_first _)⟩
set_option maxHeartbeats 400000 in
theorem upper_out (c : Int) (w : World) (h0 : 0 ≤ c) (h1 : c ≤ 255) (h : c < 128 ∨ (128 ≤ c ∧ 159 < c)) : Calls Try.prog 52 #[.int .u8 c] w fun e w' => e = .returned (.int .i32 c) ∧ Below w.heap.size w w' := by
  rcases h with h | ⟨h, h2⟩
  · have d1 : decide (c < 128) = true := decide_eq_true h
    go_enter Try.func52, Try.ntmps52
    go_wp2
    go_ret
    exact ⟨rfl, Below.refl _ _⟩
  · have d1 : decide (c < 128) = false := decide_eq_false (by omega)
    have d2 : decide (159 < c) = true := decide_eq_true h2
    go_enter Try.func52, Try.ntmps52
    go_wp2
    go_ret
    exact ⟨rfl, Below.refl _ _⟩
theorem upper_any (c : Int) (w : World) (h0 : 0 ≤ c) (h1 : c ≤ 255) : Calls Try.prog 52 #[.int .u8 c] w fun e w' => e = .returned (.int .i32 (upV c)) ∧ Below w.heap.size w w' := by
  by_cases h : c < 128 ∨ 159 < c
  · have e : upV c = c := by rw [upV, if_pos h]
    rw [e]
    exact upper_out c w h0 h1 (by omega)
  · obtain ⟨k, rfl⟩ : ∃ k : Nat, c = 128 + (k : Int) := ⟨(c - 128).toNat, by omega⟩
    have e : upV (128 + (k : Int)) = rd upTab (k : Int) := by rw [upV, if_neg h]; congr 1; omega
    rw [e]
    exact upper_mid k w (by omega)
/-- A byte's point in a set of one byte; -1: it is none. -/
def pointV (f c : Int) : Int := if f = 4 then euroV c else if f = 5 then upV c else if f = 1 ∧ 127 < c then -1 else c
set_option maxHeartbeats 1000000 in
theorem point_any (f c : Int) (w : World) (h0 : 0 ≤ c) (h1 : c ≤ 255) : Calls Try.prog 46 #[.int .i64 f, .int .u8 c] w fun e w' => e = .returned (.int .i32 (pointV f c)) ∧ Below w.heap.size w w' := by
  have HE := Lib.hid (euro_any c w h0 h1)
  have HU := Lib.hid (upper_any c w h0 h1)
  by_cases f4 : f = 4
  · subst f4
    rw [show pointV 4 c = euroV c from rfl]
    go_enter Try.func46, Try.ntmps46
    go_wp2_with (go_at_call 51; ((with_reducible refine HE.out.mono ?_); rintro e w1 ⟨rfl, hB⟩; have HB := Lib.hid hB; clear hB))
    go_ret
    exact ⟨rfl, HB.out⟩
  · by_cases f5 : f = 5
    · subst f5
      rw [show pointV 5 c = upV c from rfl]
      go_enter Try.func46, Try.ntmps46
      go_wp2_with (go_at_call 52; ((with_reducible refine HU.out.mono ?_); rintro e w1 ⟨rfl, hB⟩; have HB := Lib.hid hB; clear hB))
      go_ret
      exact ⟨rfl, HB.out⟩
    · have b4 : (f == 4) = false := beq_eq_false_iff_ne.mpr f4
      have b5 : (f == 5) = false := beq_eq_false_iff_ne.mpr f5
      by_cases f1 : f = 1
      · have b1 : (f == 1) = true := beq_iff_eq.mpr f1
        by_cases hc : 127 < c
        · rw [show pointV f c = -1 by rw [pointV, if_neg f4, if_neg f5, if_pos ⟨f1, hc⟩]]
          have d1 : decide (127 < c) = true := decide_eq_true hc
          clear f1 f4 f5
          go_enter Try.func46, Try.ntmps46
          go_wp2
          go_ret
          exact ⟨rfl, Below.refl _ _⟩
        · rw [show pointV f c = c by rw [pointV, if_neg f4, if_neg f5, if_neg (fun h => hc h.2)]]
          have d1 : decide (127 < c) = false := decide_eq_false hc
          clear f1 f4 f5 hc
          go_enter Try.func46, Try.ntmps46
          go_wp2
          go_ret
          exact ⟨rfl, Below.refl _ _⟩
      · rw [show pointV f c = c by rw [pointV, if_neg f4, if_neg f5, if_neg (fun h => f1 h.1)]]
        have b1 : (f == 1) = false := beq_eq_false_iff_ne.mpr f1
        clear f1 f4 f5
        go_enter Try.func46, Try.ntmps46
        go_wp2
        go_ret
        exact ⟨rfl, Below.refl _ _⟩
end Go.Proofs.Ytpbgpbblbohmgaa
