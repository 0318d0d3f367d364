/- charset: a set's form; a byte's point. -/
import Derived.Test.YtpbgpbblbohmgaaLowCharset
import Derived.Test.YtpbgpbblbohmgaaPCharsetDecodesx1
import Derived.Test.YtpbgpbblbohmgaaCPlain
namespace Go.Proofs.Ytpbgpbblbohmgaa
open Go.RowKit Go.Proofs.YtpbgpbblbohmgaaW.PrintWords

def formL (l : List UInt8) : Int :=
  if l = [117, 115, 45, 97, 115, 99, 105, 105] ∨ l = [97, 115, 99, 105, 105] then 1 else if l = [117, 116, 102, 45, 56] then 2 else
  if l = [105, 115, 111, 45, 56, 56, 53, 57, 45, 49] ∨ l = [108, 97, 116, 105, 110, 49] then 3 else if l = [105, 115, 111, 45, 56, 56, 53, 57, 45, 49, 53] then 4 else
  if l = [119, 105, 110, 100, 111, 119, 115, 45, 49, 50, 53, 50] then 5 else if l = [117, 116, 102, 45, 49, 54] then 6 else if l = [117, 116, 102, 45, 49, 54, 98, 101] then 7 else if l = [117, 116, 102, 45, 49, 54, 108, 101] then 8 else 0
def formV (s : ByteArray) : Int := formL (lowS s).toList
theorem formL_range (l : List UInt8) : 0 ≤ formL l ∧ formL l ≤ 8 := by
  unfold formL
  repeat' split
  all_goals decide
set_option maxRecDepth 100000 in
set_option maxHeartbeats 2000000 in
theorem form_any (s : ByteArray) (w : World) (hs : s.size ≤ 9223372036854775807) :
    Calls Try.prog 24 #[.string s] w fun e w' => e = .returned (.int .i64 (formV s)) ∧ Below w.heap.size w w' := by
  have HC := Lib.hid (charset_lower_any s w hs)
  have HF : Hid (formV s = formL (lowS s).toList) := Lib.hid rfl
  generalize formV s = R at *
  generalize lowS s = S at *
  go_enter Try.func24, Try.ntmps24
  go_wp2_with (go_at_call 38; ((with_reducible refine HC.out.mono ?_); rintro e w1 ⟨rfl, hB⟩; have HB := Lib.hid hB; clear hB))
  all_goals
    go_ret
    refine ⟨?_, HB.out⟩
    have hf := HF.out
    clear HF HC HB
    first
      | (exfalso; simp_all; done)
      | (subst hf; unfold formL; simp_all; done)

theorem drawn_below {w w' : World} (h : Drawn0 w w') : Below w.heap.size w w' := h.below
def knownV (s : ByteArray) : Bool := formV s != 0
set_option maxHeartbeats 400000 in
theorem known_any (s : ByteArray) (w : World) (hs : s.size ≤ 9223372036854775807) :
    Calls Try.prog 12 #[.string s] w fun e w' => e = .returned (.bool (knownV s)) ∧ Below w.heap.size w w' := by
  have HC := Lib.hid (form_any s w hs)
  have HF : Hid (knownV s = (formV s != 0)) := Lib.hid rfl
  generalize knownV s = R at *
  generalize formV s = f at *
  go_enter Try.func12, Try.ntmps12
  go_wp2_with (go_at_call 24; ((with_reducible refine HC.out.mono ?_); rintro e w1 ⟨rfl, hB⟩; have HB := Lib.hid hB; clear hB))
  go_ret
  exact ⟨by rw [HF.out]; rfl, HB.out⟩
def fitsE (s : ByteArray) : Int := if formV s = 0 then 143 else 0
def FitsPost (s : ByteArray) (w : World) (e : Ending) (w' : World) : Prop := e = .returned (.tuple #[.int .i64 (formV s), .agg #[.int .i64 0, .int .i64 (fitsE s)]]) ∧ Below w.heap.size w w'
set_option maxRecDepth 100000 in
set_option maxHeartbeats 400000 in
theorem fits_any (s : ByteArray) (A : Option Addr) (n c : Nat) (w : World) (hs : s.size ≤ 9223372036854775807) (hn : n ≤ 1048576) :
    Calls Try.prog 19 #[.string s, .slice A n c] w (FitsPost s w) := by
  have HC := Lib.hid (fun w => form_any s w hs)
  by_cases hf : formV s = 0
  · have HF : Hid (fitsE s = 143) := Lib.hid (by rw [fitsE, if_pos hf])
    have HV := Lib.hid hf
    rw [hf] at HC
    clear hf
    go_enter Try.func19, Try.ntmps19
    go_wp2_with (go_at_call 24; ((with_reducible refine (HC.out _).mono ?_); rintro e w1 ⟨rfl, hB⟩; have HF1 := Lib.hid (blk_below (heap_alloc_new w (.cells #[.int .i64 0, .int .i64 0] 26)) hB); have c0 : w1.cell? ⟨w.heap.size, 0, none⟩ = some (.int .i64 0) := (blk_cell HF1.out 0).trans rfl; have c1 : w1.cell? ⟨w.heap.size, 1, none⟩ = some (.int .i64 0) := (blk_cell HF1.out 1).trans rfl; have z0 := blk_frozen HF1.out 0; have z1 := blk_frozen HF1.out 1; have HB := Lib.hid (below_then (below_first _) (below_first _).size hB); clear hB))
    have HF2 := blk_set (blk_set HF1.out 0 (.int .i64 0)) 1 (.int .i64 143)
    refine bodyPost_ret (results_tc rfl _ _ _ _ _ _ _ rfl HF2 Try.underlying26 rfl (by kernel_rfl)) rfl ?_
    unfold FitsPost
    rw [HV.out, HF.out]
    exact ⟨rfl, below_set (below_set HB.out (Nat.le_refl _)) (Nat.le_refl _)⟩
  · have HF : Hid (fitsE s = 0) := Lib.hid (by rw [fitsE, if_neg hf])
    obtain ⟨f, hfe⟩ : ∃ f, formV s = f := ⟨_, rfl⟩
    have HV := Lib.hid hfe
    rw [hfe] at hf HC
    clear hfe
    have b0 : (f == 0) = false := beq_eq_false_iff_ne.mpr hf
    have n0 : (n : Int) ≤ 1048576 := by omega
    clear hf
    go_enter Try.func19, Try.ntmps19
    go_wp2_with (go_at_call 24; ((with_reducible refine (HC.out _).mono ?_); rintro e w1 ⟨rfl, hB⟩; have HF1 := Lib.hid (blk_below (heap_alloc_new w (.cells #[.int .i64 0, .int .i64 0] 26)) hB); have c0 : w1.cell? ⟨w.heap.size, 0, none⟩ = some (.int .i64 0) := (blk_cell HF1.out 0).trans rfl; have c1 : w1.cell? ⟨w.heap.size, 1, none⟩ = some (.int .i64 0) := (blk_cell HF1.out 1).trans rfl; have z0 := blk_frozen HF1.out 0; have z1 := blk_frozen HF1.out 1; have HB := Lib.hid (below_then (below_first _) (below_first _).size hB); clear hB))
    have HF2 := blk_set (blk_set HF1.out 0 (.int .i64 0)) 1 (.int .i64 0)
    refine bodyPost_ret (results_tc rfl _ _ _ _ _ _ _ rfl HF2 Try.underlying26 rfl (by kernel_rfl)) rfl ?_
    unfold FitsPost
    rw [HF.out, HV.out]
    exact ⟨rfl, below_set (below_set HB.out (Nat.le_refl _)) (Nat.le_refl _)⟩
def unitV (l : List Int) (little : Bool) : Int := if little = true then rd l 1 * 256 + rd l 0 else rd l 0 * 256 + rd l 1
theorem or_unit (x y : Int) (h0 : 0 ≤ x) (h1 : x ≤ 255) (h2 : 0 ≤ y) (h3 : y ≤ 255) : Go.bits .or .i32 (wrap32 ((wrap32 x) * 256)) (wrap32 y) = x * 256 + y := by
  have e1 : wrap32 x = x := by unfold wrap32; omega
  have e2 : wrap32 y = y := by unfold wrap32; omega
  have e3 : wrap32 (x * 256) = x * 256 := by unfold wrap32; omega
  rw [e1, e2, e3]
  exact bits_join .i32 31 (by decide) wraps_i32 8 (x * 256) y (by omega) (by omega) (by omega) h2 (by omega) (by omega)
theorem unitV_range {l : List Int} (h : Bytes l) (b : Bool) : 0 ≤ unitV l b ∧ unitV l b ≤ 65535 := by
  have h1 := h.rd 0
  have h2 := h.rd 1
  simp only [Int.natCast_zero, Int.natCast_one] at h1 h2
  unfold unitV; split <;> omega
theorem unit_any (A : Option Addr) (c : Nat) (l : List Int) (b : Bool) (w : World) (hr : ReadsInt w .u8 A l.length l) (hby : Bytes l) (hc : l.length ≤ c) (h2 : 2 ≤ l.length) :
    Calls Try.prog 45 #[.slice A l.length c, .bool b] w fun e w' => e = .returned (.int .i32 (unitV l b)) ∧ ∃ n, w' = w.drewN n := by
  have h3 := hby.rd 0
  have h4 := hby.rd 1
  simp only [Int.natCast_zero, Int.natCast_one] at h3 h4
  refine (PCharsetDecodes.charset_unit.calls A c l b (unitV l b) w (Kd.C_of_reads (d := (0 : Int)) hr) hc ?_).mono fun e w' h => ⟨h.1, h.2.out⟩
  unfold PCharsetDecodes.charset_unit.f unitV
  cases b
  · simp only [Bool.false_eq_true, if_false]
    rw [if_pos (by omega), if_pos (by omega), or_unit _ _ h3.1 h3.2 h4.1 h4.2]
  · simp only [if_true]
    rw [if_pos (by omega), if_pos (by omega), or_unit _ _ h4.1 h4.2 h3.1 h3.2]
def euroV (c : Int) : Int := if c = 164 then 8364 else if c = 166 then 352 else if c = 168 then 353 else if c = 180 then 381 else if c = 184 then 382 else if c = 188 then 338 else if c = 189 then 339 else if c = 190 then 376 else c
theorem euro_any (c : Int) (w : World) (h0 : 0 ≤ c) (h1 : c ≤ 255) : Calls Try.prog 51 #[.int .u8 c] w fun e w' => e = .returned (.int .i32 (euroV c)) ∧ Below w.heap.size w w' := by
  refine (PCharsetDecodes.charset_euro.calls c (euroV c) w ?_).mono fun e w' h => ⟨h.1, h.2.below⟩
  have e1 : wrap32 c = c := by unfold wrap32; omega
  unfold PCharsetDecodes.charset_euro.f euroV
  rw [e1]
  repeat' split
  all_goals rfl
end Go.Proofs.Ytpbgpbblbohmgaa
