/- charset: write. -/
import Derived.Test.YtpbgpbblbohmgaaChE1
namespace Go.Proofs.Ytpbgpbblbohmgaa
open Go.RowKit Go.Proofs.YtpbgpbblbohmgaaW.PrintWords

def writeV (f p : Int) : Option (List Int) :=
  if f = 2 then some (putB p) else
  if f = 6 ∨ f = 7 ∨ f = 8 then some (if p < 65536 then put2 p (f == 8) else put2 (55296 + (p - 65536) / 1024) (f == 8) ++ put2 (56320 + (p - 65536) % 1024) (f == 8)) else
  if byteV f p < 0 then none else some [byteV f p]
def WNone (w : World) (e : Ending) (w' : World) : Prop := e = .returned (.tuple #[.slice none 0 0, .bool false]) ∧ Below w.heap.size w w'
def WSome (base : Nat) (w : World) (v0 : Value) (xs : List Int) (e : Ending) (w' : World) : Prop := ∃ v, e = .returned (.tuple #[v, .bool true]) ∧ PutTo base w w' v0 v xs
theorem grown_putTo0 {base : Nat} {w w1 : World} {v0 v1 : Value} {xs : List Int} (hO : ORow .u8 5 w1 base v1 xs) (hB : Below base w w1) (hg : w.grownBy w1 v0.ownBlock) (hat : v1.ownBlock = v0.ownBlock ∨ ∃ b, v1.ownBlock = some b ∧ w.heap.size ≤ b) : PutTo base w w1 v0 v1 xs :=
  ⟨hO, hB, hg.size, fun i hi hn => hg.block i hi hn, hat⟩
set_option maxRecDepth 100000 in
set_option maxHeartbeats 1000000 in
theorem write_utf (p : Int) (base : Nat) (v0 : Value) (out : List Int) (w : World) (hp : isPt p = true) (hO : ORow .u8 5 w base v0 out) (hb : base ≤ w.heap.size) (hl : out.length ≤ 35184372088832) :
    Calls Try.prog 27 #[v0, .int .i64 2, .int .i32 p] w (WSome base w v0 (out ++ putB p)) := by
  have HO := Lib.hid hO
  have HL := Lib.hid hl
  have HBB := Lib.hid hb
  have HC := Lib.hid (put_ok p w hp)
  have HPL := Lib.hid (putB_len p)
  generalize putB p = ps at *
  clear hO hl hb hp
  go_enter Try.func27, Try.ntmps27
  go_wp2_with (first
    | (go_at_call 28; ((with_reducible refine HC.out.mono ?_); rintro e w1 ⟨v, rfl, hO1, hB1⟩; obtain ⟨A2, c2, rfl, hc2, hR2⟩ := hO1.reads; have HR2 := Lib.hid hR2; have HO2 := Lib.hid (HO.out.below hB1); have HW1 := Lib.hid (Nat.le_trans HBB.out hB1.size); have HB1 := Lib.hid hB1; clear hB1 hR2 hO1))
    | (at_builtin; refine print_append_row (w0 := w1) base rfl (.tmp 20) (.tmp 21) 22 5 .u8 1 rfl Try.underlying22 infoU8 (by decide) _ out ps _ _ _ rfl rfl HO2.out HR2.out (Below.refl _ _) HW1.out (by have := HL.out; have := HPL.out; omega) ?_; intro v1 w2 hO3 hB3 hg3 hat3; have HPT := Lib.hid (PutTo.first HO.out HBB.out HB1.out (grown_putTo0 hO3 hB3 hg3 hat3)); clear hO3 hB3 hg3 hat3))
  go_ret2
  exact ⟨_, rfl, HPT.out⟩
set_option maxRecDepth 100000 in
set_option maxHeartbeats 1000000 in
theorem write_one (f p : Int) (base : Nat) (v0 : Value) (out : List Int) (w : World) (h2 : f ≠ 2) (h6 : f ≠ 6) (h7 : f ≠ 7) (h8 : f ≠ 8) (hv : 0 ≤ byteV f p) (hO : ORow .u8 5 w base v0 out) (hb : base ≤ w.heap.size) (hl : out.length ≤ 35184372088832) :
    Calls Try.prog 27 #[v0, .int .i64 f, .int .i32 p] w (WSome base w v0 (out ++ [byteV f p])) := by
  have HO := Lib.hid hO
  have HL := Lib.hid hl
  have HBB := Lib.hid hb
  have HC := Lib.hid (byteOf_any f p w)
  have hr : byteV f p ≤ 255 := by rcases byteV_range f p with h | h <;> omega
  generalize byteV f p = k at *
  have b2 : (f == 2) = false := beq_eq_false_iff_ne.mpr h2
  have b6 : (f == 6) = false := beq_eq_false_iff_ne.mpr h6
  have b7 : (f == 7) = false := beq_eq_false_iff_ne.mpr h7
  have b8 : (f == 8) = false := beq_eq_false_iff_ne.mpr h8
  clear hO hl hb h2 h6 h7 h8
  go_enter Try.func27, Try.ntmps27
  go_wp2_with (first
    | (go_at_call 39; ((with_reducible refine HC.out.mono ?_); rintro e w1 ⟨rfl, hB1⟩; have HO2 := Lib.hid (HO.out.below hB1); have HW1 := Lib.hid (Nat.le_trans HBB.out hB1.size); have HB1 := Lib.hid hB1; clear hB1))
    | (at_builtin; refine print_append_num (w0 := w1) base rfl (.tmp 53) (.tmp 56) 22 5 .u8 1 rfl Try.underlying22 infoU8 (by decide) _ out k rfl rfl HO2.out (Below.refl _ _) HW1.out (by have := HL.out; omega) ?_; intro v1 w2 hO3 hB3 hg3 hat3; have HPT := Lib.hid (PutTo.first HO.out HBB.out HB1.out (grown_putTo0 hO3 hB3 hg3 hat3)); clear hO3 hB3 hg3 hat3))
  go_ret2
  exact ⟨_, rfl, HPT.out⟩
set_option maxRecDepth 100000 in
set_option maxHeartbeats 1000000 in
theorem write_none (f p : Int) (v0 : Value) (w : World) (h2 : f ≠ 2) (h6 : f ≠ 6) (h7 : f ≠ 7) (h8 : f ≠ 8) (hv : byteV f p < 0) :
    Calls Try.prog 27 #[v0, .int .i64 f, .int .i32 p] w (WNone w) := by
  have HC := Lib.hid (byteOf_any f p w)
  generalize byteV f p = k at *
  have b2 : (f == 2) = false := beq_eq_false_iff_ne.mpr h2
  have b6 : (f == 6) = false := beq_eq_false_iff_ne.mpr h6
  have b7 : (f == 7) = false := beq_eq_false_iff_ne.mpr h7
  have b8 : (f == 8) = false := beq_eq_false_iff_ne.mpr h8
  clear h2 h6 h7 h8
  go_enter Try.func27, Try.ntmps27
  go_wp2_with (first
    | (go_at_call 39; ((with_reducible refine HC.out.mono ?_); rintro e w1 ⟨rfl, hB1⟩; have HB1 := Lib.hid hB1; clear hB1)))
  go_ret2
  exact ⟨rfl, HB1.out⟩
theorem and1023 (x : Int) (h0 : 0 ≤ x) (h1 : x < 2147483648) : bits BinOp.and IntKind.i32 x 1023 = x % 1024 := bits_mask .i32 31 (by decide) wraps_i32 10 (by decide) x h0 h1
set_option maxRecDepth 100000 in
set_option maxHeartbeats 1000000 in
theorem write_two (f p : Int) (bb : Bool) (base : Nat) (v0 : Value) (out : List Int) (w : World) (hf : (f = 6 ∨ f = 7) ∧ bb = false ∨ f = 8 ∧ bb = true) (h0 : 0 ≤ p) (h1 : p < 65536) (hO : ORow .u8 5 w base v0 out) (hb : base ≤ w.heap.size) (hl : out.length ≤ 35184372088832) :
    Calls Try.prog 27 #[v0, .int .i64 f, .int .i32 p] w (WSome base w v0 (out ++ put2 p bb)) := by
  have HC := Lib.hid (cput_any p bb base v0 out w h0 (by omega) hO hb hl)
  unfold PutPost2 at HC
  generalize put2 p bb = ps at *
  clear hO hb hl
  rcases hf with ⟨rfl | rfl, rfl⟩ | ⟨rfl, rfl⟩
  all_goals
    go_enter Try.func27, Try.ntmps27
    go_wp2_with (first
      | (go_at_call 26; ((with_reducible refine HC.out.mono ?_); rintro e w1 ⟨v, rfl, hPT⟩; have HPT := Lib.hid hPT; clear hPT)))
    go_ret2
    exact ⟨_, rfl, HPT.out⟩
set_option maxRecDepth 100000 in
set_option maxHeartbeats 1000000 in
theorem write_four (f p : Int) (bb : Bool) (base : Nat) (v0 : Value) (out : List Int) (w : World) (hf : (f = 6 ∨ f = 7) ∧ bb = false ∨ f = 8 ∧ bb = true) (h0 : 65536 ≤ p) (h1 : p < 1114112) (hO : ORow .u8 5 w base v0 out) (hb : base ≤ w.heap.size) (hl : out.length ≤ 17592186044416) :
    Calls Try.prog 27 #[v0, .int .i64 f, .int .i32 p] w (WSome base w v0 (out ++ (put2 (55296 + (p - 65536) / 1024) bb ++ put2 (56320 + (p - 65536) % 1024) bb))) := by
  have HC := Lib.hid (cput_any (55296 + (p - 65536) / 1024) bb base v0 out w (by omega) (by omega) hO hb (by omega))
  have hpl := put2_len (55296 + (p - 65536) / 1024) bb
  have HC2 := Lib.hid (fun W v1 h1 h2 => cput_any (56320 + (p - 65536) % 1024) bb base v1 (out ++ put2 (55296 + (p - 65536) / 1024) bb) W (by omega) (by omega) h1 h2 (by rw [List.length_append, hpl]; omega))
  rw [← List.append_assoc]
  unfold PutPost2 at HC HC2
  have HAND := Lib.hid (and1023 (p - 65536) (by omega) (by omega))
  have HBB := Lib.hid hb
  generalize put2 (55296 + (p - 65536) / 1024) bb = ps at *
  generalize put2 (56320 + (p - 65536) % 1024) bb = qs at *
  clear hO hb hl hpl
  rcases hf with ⟨rfl | rfl, rfl⟩ | ⟨rfl, rfl⟩
  all_goals
    have hand := HAND.out
    go_enter Try.func27, Try.ntmps27
    go_wp2_with (first
      | (go_at_call 26; ((with_reducible refine HC.out.mono ?_); rintro e w1 ⟨v, rfl, hPT⟩; have HPT := Lib.hid hPT; clear hPT))
      | (go_at_call 26; ((with_reducible refine (HC2.out _ _ HPT.out.own (Nat.le_trans HBB.out HPT.out.size)).mono ?_); rintro e w2 ⟨v2, rfl, hPT2⟩; have HPT2 := Lib.hid (HPT.out.trans hPT2); clear hPT2)))
    go_ret2
    exact ⟨_, rfl, HPT2.out⟩
end Go.Proofs.Ytpbgpbblbohmgaa
