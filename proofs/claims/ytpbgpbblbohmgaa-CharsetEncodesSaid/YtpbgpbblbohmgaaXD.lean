/- charset: byteOf, put, write. charset: write. charset: Encode, Least. charset: Encode, the main way; Least. What the statements of charset ask at fixed calls: all of it comes. The sets of signs, in plain terms: there and back. The law CharsetBack. The sets of signs, in plain terms: what is read, written again; bytes below 128; a set's name. -/
import Derived.Test.YtpbgpbblbohmgaaXC
import Derived.RegionTactic
import Derived.BigRegion
import Derived.Test.YtpbgpbblbohmgaaWEqStruct
namespace Go.Proofs.Ytpbgpbblbohmgaa
open Go.RowKit Go.Proofs.YtpbgpbblbohmgaaW.PrintWords

/-- The byte of a point in a set of one byte, from c on; -1: it has none. -/
def byteF (f p : Int) : Nat → Nat → Int
  | 0, _ => -1
  | k + 1, c => if pointV f (c : Int) = p then (c : Int) else byteF f p k (c + 1)
def byteV (f p : Int) : Int := byteF f p 256 0
theorem byteF_range (f p : Int) : ∀ k c, byteF f p k c = -1 ∨ ((c : Int) ≤ byteF f p k c ∧ byteF f p k c < (c : Int) + k ∧ pointV f (byteF f p k c) = p)
  | 0, c => .inl rfl
  | k + 1, c => by
    rw [byteF]
    split
    · rename_i h
      exact .inr ⟨Int.le_refl _, by omega, h⟩
    · rcases byteF_range f p k (c + 1) with h | ⟨h1, h2, h3⟩
      · exact .inl h
      · exact .inr ⟨by omega, by omega, h3⟩
theorem byteV_range (f p : Int) : byteV f p = -1 ∨ (0 ≤ byteV f p ∧ byteV f p ≤ 255 ∧ pointV f (byteV f p) = p) := by
  rcases byteF_range f p 256 0 with h | ⟨h1, h2, h3⟩
  · exact .inl h
  · exact .inr ⟨by unfold byteV; simpa using h1, by unfold byteV; simp at h2; omega, h3⟩
set_option maxHeartbeats 1000000 in
theorem byteOf_any (f p : Int) (w : World) : Calls Try.prog 39 #[.int .i64 f, .int .i32 p] w fun e w' => e = .returned (.int .i64 (byteV f p)) ∧ Below w.heap.size w w' := by
  have HV : Hid (byteV f p = byteF f p 256 0) := Lib.hid rfl
  generalize byteV f p = V at *
  go_enter Try.func39, Try.ntmps39
  go_wp2
  go_loopw [6] (fun s6 wr => ∃ n : Nat, n ≤ 256 ∧ s6 = .int .i64 n ∧ Hid (Below w.heap.size w wr) ∧ Hid (V = byteF f p (256 - n) n)) (fun s6 _ => 256 - (intOf s6).toNat)
  case atStart => exact ⟨0, by omega, rfl, Lib.hid (Below.refl _ _), HV⟩
  case round =>
    obtain ⟨n, hn, rfl, HB, HN⟩ := hrel
    have hn0 : (0 : Int) ≤ (n : Int) := Int.natCast_nonneg _
    by_cases hlt : n < 256
    · have hn1 : (n : Int) < 256 := by omega
      have HC := Lib.hid (point_any f (n : Int) wr (by omega) (by omega))
      have HST : Hid (byteF f p (256 - n) n = if pointV f (n : Int) = p then (n : Int) else byteF f p (256 - (n + 1)) (n + 1)) := Lib.hid (by rw [show 256 - n = (256 - (n + 1)) + 1 by omega, byteF])
      generalize pointV f (n : Int) = q at *
      by_cases hq : q = p
      · have b1 : (q == p) = true := beq_iff_eq.mpr hq
        have HV2 : Hid (V = (n : Int)) := Lib.hid (by rw [HN.out, HST.out, if_pos hq])
        clear hq
        go_wp2_with (go_at_call 46; ((with_reducible refine HC.out.mono ?_); rintro e w1 ⟨rfl, hB⟩; have HB1 := Lib.hid (below_then HB.out HB.out.size hB); clear hB))
        go_ret
        exact ⟨by rw [HV2.out]; rfl, HB1.out⟩
      · have b1 : (q == p) = false := beq_eq_false_iff_ne.mpr hq
        have HV2 : Hid (V = byteF f p (256 - (n + 1)) (n + 1)) := Lib.hid (by rw [HN.out, HST.out, if_neg hq])
        clear hq
        go_wp2_with (go_at_call 46; ((with_reducible refine HC.out.mono ?_); rintro e w1 ⟨rfl, hB⟩; have HB1 := Lib.hid (below_then HB.out HB.out.size hB); clear hB))
        go_roundw
        case rel => exact ⟨n + 1, by omega, by go_num, HB1, HV2⟩
        case measure => simp [intOf]; omega
    · obtain rfl : n = 256 := by omega
      go_wp2
      go_ret
      exact ⟨by rw [HN.out]; rfl, HB.out⟩
/-- What becomes of a row that is appended to. -/
structure PutTo (base : Nat) (w w' : World) (v0 v : Value) (xs : List Int) : Prop where
  own : ORow .u8 5 w' base v xs
  bel : Below base w w'
  size : w.heap.size ≤ w'.heap.size
  keep : ∀ i, i < w.heap.size → some i ≠ v0.ownBlock → w'.heap[i]? = w.heap[i]?
  at_ : v.ownBlock = v0.ownBlock ∨ ∃ b, v.ownBlock = some b ∧ w.heap.size ≤ b
theorem PutTo.trans {base : Nat} {w w1 w2 : World} {v0 v1 v2 : Value} {xs ys : List Int} (h : PutTo base w w1 v0 v1 xs) (k : PutTo base w1 w2 v1 v2 ys) : PutTo base w w2 v0 v2 ys := by
  refine ⟨k.own, h.bel.trans k.bel, Nat.le_trans h.size k.size, fun i hi hn => (k.keep i (Nat.lt_of_lt_of_le hi h.size) ?_).trans (h.keep i hi hn), ?_⟩
  · rcases h.at_ with e | ⟨b, e, hb⟩
    · rw [e]; exact hn
    · rw [e]; intro he; injection he with he; omega
  · rcases k.at_ with e | ⟨b, e, hb⟩
    · rw [e]; exact h.at_
    · exact .inr ⟨b, e, Nat.le_trans h.size hb⟩
theorem PutTo.blk {base : Nat} {w w' : World} {v0 v : Value} {xs ys : List Int} {g t : Nat} {cs : Array Value} (h : PutTo base w w' v0 v xs) (h0 : ORow .u8 5 w base v0 ys) (hg : w.heap[g]? = some (.cells cs t (0, 0))) (ht : 5 ≠ t) : w'.heap[g]? = some (.cells cs t (0, 0)) :=
  (h.keep g (blk_lt hg) (own_ne h0 hg ht)).trans hg
theorem PutTo.first {base : Nat} {w w1 w2 : World} {v0 v : Value} {xs ys : List Int} (h0 : ORow .u8 5 w base v0 ys) (hb : base ≤ w.heap.size) (hB : Below w.heap.size w w1) (h : PutTo base w1 w2 v0 v xs) : PutTo base w w2 v0 v xs :=
  ⟨h.own, (⟨hB.os, hB.tape, hB.output, hB.size, fun i hi => hB.block i (by omega)⟩ : Below base w w1).trans h.bel, Nat.le_trans hB.size h.size, fun i hi hn => (h.keep i (Nat.lt_of_lt_of_le hi hB.size) hn).trans (hB.block i hi), by
    rcases h.at_ with e | ⟨b, e, hh⟩
    · exact .inl e
    · exact .inr ⟨b, e, Nat.le_trans hB.size hh⟩⟩
def put2 (u : Int) (little : Bool) : List Int := if little = true then [u % 256, u / 256] else [u / 256, u % 256]
theorem put2_len (u : Int) (b : Bool) : (put2 u b).length = 2 := by unfold put2; split <;> rfl
theorem grown_putTo {base : Nat} {w w1 : World} {v0 v1 : Value} {xs ys : List Int} (o : Obj) (h0 : ORow .u8 5 w base v0 ys) (hb : base ≤ w.heap.size) (hO : ORow .u8 5 w1 base v1 xs) (hB : Below base w w1) (hg : (w.alloc o).grownBy w1 v0.ownBlock) (hat : v1.ownBlock = v0.ownBlock ∨ ∃ b, v1.ownBlock = some b ∧ (w.alloc o).heap.size ≤ b) : PutTo base w w1 v0 v1 xs := by
  have hs : w.heap.size ≤ (w.alloc o).heap.size := (below_first o).size
  refine ⟨hO, hB, Nat.le_trans hs hg.size, fun i hi hn => (hg.block i (Nat.lt_of_lt_of_le hi hs) hn).trans ((below_first o).block i hi), ?_⟩
  rcases hat with e | ⟨b, e, hh⟩
  · exact .inl e
  · exact .inr ⟨b, e, Nat.le_trans hs hh⟩
def PutPost2 (base : Nat) (w : World) (v0 : Value) (xs : List Int) (e : Ending) (w' : World) : Prop := ∃ v, e = .returned v ∧ PutTo base w w' v0 v xs
set_option maxRecDepth 100000 in
set_option maxHeartbeats 1000000 in
theorem put_le (u : Int) (base : Nat) (v0 : Value) (out : List Int) (w : World) (h0 : 0 ≤ u) (h1 : u ≤ 65535) (hO : ORow .u8 5 w base v0 out) (hb : base ≤ w.heap.size) (hl : out.length ≤ 35184372088832) :
    Calls Try.prog 26 #[v0, .int .i32 u, .bool true] w (PutPost2 base w v0 (out ++ put2 u true)) := by
  have HO := Lib.hid hO
  have HL := Lib.hid hl
  have HBB := Lib.hid hb
  have HP : Hid (put2 u true = [u % 256, u / 256]) := Lib.hid rfl
  have C1 : Hid (#[Value.int .u8 (u % 256), Value.int .u8 (u / 256)] = (nums .u8 (put2 u true)).toArray) := Lib.hid rfl
  have C2 : Hid (2 = (put2 u true).length) := Lib.hid rfl
  have C3 : Hid ((put2 u true).length ≤ 9223372036854775807) := Lib.hid (by rw [put2_len]; decide)
  have C6 : Hid ((out.length + 2) * 1 ≤ 140737488355328) := Lib.hid (by omega)
  generalize put2 u true = ps at *
  have e1 : IntKind.u8.wrap (u / 256) = u / 256 := by rw [wraps_u8 _ (by omega) (by omega)]
  clear hO hl hb
  go_enter Try.func26, Try.ntmps26
  go_wp2_with (first
    | (at_builtin; refine print_append_row (w0 := w) base rfl (.tmp 8) (.tmp 14) 22 5 .u8 1 rfl Try.underlying22 infoU8 (by decide) _ out ps (some ⟨w.heap.size, 0, none⟩) 2 2 rfl rfl (HO.out.alloc _) (lit_reads .u8 _ w ps _ 2 _ rfl C1.out C2.out C3.out) ((Below.refl _ _).alloc HBB.out _) (Nat.le_trans HBB.out (below_first _).size) C6.out ?_; (intro v1 w1 hO1 hB1 hg1 hat1; have G1 : Hid (ORow .u8 5 w1 base v1 (out ++ ps)) := Lib.hid hO1; have G2 := Lib.hid hB1; have G3 : Hid ((w.alloc (.cells #[.int .u8 (u % 256), .int .u8 (u / 256)] 5)).grownBy w1 v0.ownBlock) := Lib.hid hg1; have G4 : Hid (v1.ownBlock = v0.ownBlock ∨ ∃ b, v1.ownBlock = some b ∧ (w.alloc (.cells #[.int .u8 (u % 256), .int .u8 (u / 256)] 5)).heap.size ≤ b) := Lib.hid hat1; clear hO1 hB1 hg1 hat1)))
  go_ret
  exact ⟨_, rfl, grown_putTo _ HO.out HBB.out G1.out G2.out G3.out G4.out⟩
set_option maxRecDepth 100000 in
set_option maxHeartbeats 1000000 in
theorem put_be (u : Int) (base : Nat) (v0 : Value) (out : List Int) (w : World) (h0 : 0 ≤ u) (h1 : u ≤ 65535) (hO : ORow .u8 5 w base v0 out) (hb : base ≤ w.heap.size) (hl : out.length ≤ 35184372088832) :
    Calls Try.prog 26 #[v0, .int .i32 u, .bool false] w (PutPost2 base w v0 (out ++ put2 u false)) := by
  have HO := Lib.hid hO
  have HL := Lib.hid hl
  have HBB := Lib.hid hb
  have HP : Hid (put2 u false = [u / 256, u % 256]) := Lib.hid rfl
  have C1 : Hid (#[Value.int .u8 (u / 256), Value.int .u8 (u % 256)] = (nums .u8 (put2 u false)).toArray) := Lib.hid rfl
  have C2 : Hid (2 = (put2 u false).length) := Lib.hid rfl
  have C3 : Hid ((put2 u false).length ≤ 9223372036854775807) := Lib.hid (by rw [put2_len]; decide)
  have C6 : Hid ((out.length + 2) * 1 ≤ 140737488355328) := Lib.hid (by omega)
  generalize put2 u false = ps at *
  have e1 : IntKind.u8.wrap (u / 256) = u / 256 := by rw [wraps_u8 _ (by omega) (by omega)]
  clear hO hl hb
  go_enter Try.func26, Try.ntmps26
  go_wp2_with (first
    | (at_builtin; refine print_append_row (w0 := w) base rfl (.tmp 16) (.tmp 22) 22 5 .u8 1 rfl Try.underlying22 infoU8 (by decide) _ out ps (some ⟨w.heap.size, 0, none⟩) 2 2 rfl rfl (HO.out.alloc _) (lit_reads .u8 _ w ps _ 2 _ rfl C1.out C2.out C3.out) ((Below.refl _ _).alloc HBB.out _) (Nat.le_trans HBB.out (below_first _).size) C6.out ?_; (intro v1 w1 hO1 hB1 hg1 hat1; have G1 : Hid (ORow .u8 5 w1 base v1 (out ++ ps)) := Lib.hid hO1; have G2 := Lib.hid hB1; have G3 : Hid ((w.alloc (.cells #[.int .u8 (u / 256), .int .u8 (u % 256)] 5)).grownBy w1 v0.ownBlock) := Lib.hid hg1; have G4 : Hid (v1.ownBlock = v0.ownBlock ∨ ∃ b, v1.ownBlock = some b ∧ (w.alloc (.cells #[.int .u8 (u / 256), .int .u8 (u % 256)] 5)).heap.size ≤ b) := Lib.hid hat1; clear hO1 hB1 hg1 hat1)))
  go_ret
  exact ⟨_, rfl, grown_putTo _ HO.out HBB.out G1.out G2.out G3.out G4.out⟩
theorem cput_any (u : Int) (b : Bool) (base : Nat) (v0 : Value) (out : List Int) (w : World) (h0 : 0 ≤ u) (h1 : u ≤ 65535) (hO : ORow .u8 5 w base v0 out) (hb : base ≤ w.heap.size) (hl : out.length ≤ 35184372088832) :
    Calls Try.prog 26 #[v0, .int .i32 u, .bool b] w (PutPost2 base w v0 (out ++ put2 u b)) := by
  cases b
  · exact put_be u base v0 out w h0 h1 hO hb hl
  · exact put_le u base v0 out w h0 h1 hO hb hl
end Go.Proofs.Ytpbgpbblbohmgaa
namespace Go.Proofs.Ytpbgpbblbohmgaa
open Go.RowKit Go.Proofs.YtpbgpbblbohmgaaW.PrintWords

def writeV (f p : Int) : Option (List Int) :=
  if f = 2 then some (putB p) else
  if f = 6 ∨ f = 7 ∨ f = 8 then some (if p < 65536 then put2 p (f == 8) else put2 (55296 + (p - 65536) / 1024) (f == 8) ++ put2 (56320 + (p - 65536) % 1024) (f == 8)) else
  if byteV f p < 0 then none else some [byteV f p]
def WNone (w : World) (e : Ending) (w' : World) : Prop := e = .returned (.tuple #[.slice none 0 0, .bool false]) ∧ Below w.heap.size w w'
def WSome (base : Nat) (w : World) (v0 : Value) (xs : List Int) (e : Ending) (w' : World) : Prop := ∃ v, e = .returned (.tuple #[v, .bool true]) ∧ PutTo base w w' v0 v xs
theorem grown_putTo0 {base : Nat} {w w1 : World} {v0 v1 : Value} {xs : List Int} (hO : ORow .u8 5 w1 base v1 xs) (hB : Below base w w1) (hg : w.grownBy w1 v0.ownBlock) (hat : v1.ownBlock = v0.ownBlock ∨ ∃ b, v1.ownBlock = some b ∧ w.heap.size ≤ b) : PutTo base w w1 v0 v1 xs :=
  ⟨hO, hB, hg.size, fun i hi hn => hg.block i hi hn, hat⟩
set_option maxRecDepth 100000 in
set_option maxHeartbeats 1000000 in
theorem write_utf (p : Int) (base : Nat) (v0 : Value) (out : List Int) (w : World) (hp : isPt p = true) (hO : ORow .u8 5 w base v0 out) (hb : base ≤ w.heap.size) (hl : out.length ≤ 35184372088832) :
    Calls Try.prog 27 #[v0, .int .i64 2, .int .i32 p] w (WSome base w v0 (out ++ putB p)) := by
  have HO := Lib.hid hO
  have HL := Lib.hid hl
  have HBB := Lib.hid hb
  have HC := Lib.hid (put_ok p w hp)
  have HPL := Lib.hid (putB_len p)
  generalize putB p = ps at *
  clear hO hl hb hp
  go_enter Try.func27, Try.ntmps27
  go_wp2_with (first
    | (go_at_call 28; ((with_reducible refine HC.out.mono ?_); rintro e w1 ⟨v, rfl, hO1, hB1⟩; obtain ⟨A2, c2, rfl, hc2, hR2⟩ := hO1.reads; have HR2 := Lib.hid hR2; have HO2 := Lib.hid (HO.out.below hB1); have HW1 := Lib.hid (Nat.le_trans HBB.out hB1.size); have HB1 := Lib.hid hB1; clear hB1 hR2 hO1))
    | (at_builtin; refine print_append_row (w0 := w1) base rfl (.tmp 20) (.tmp 21) 22 5 .u8 1 rfl Try.underlying22 infoU8 (by decide) _ out ps _ _ _ rfl rfl HO2.out HR2.out (Below.refl _ _) HW1.out (by have := HL.out; have := HPL.out; omega) ?_; intro v1 w2 hO3 hB3 hg3 hat3; have HPT := Lib.hid (PutTo.first HO.out HBB.out HB1.out (grown_putTo0 hO3 hB3 hg3 hat3)); clear hO3 hB3 hg3 hat3))
  go_ret2
  exact ⟨_, rfl, HPT.out⟩
set_option maxRecDepth 100000 in
set_option maxHeartbeats 1000000 in
theorem write_one (f p : Int) (base : Nat) (v0 : Value) (out : List Int) (w : World) (h2 : f ≠ 2) (h6 : f ≠ 6) (h7 : f ≠ 7) (h8 : f ≠ 8) (hv : 0 ≤ byteV f p) (hO : ORow .u8 5 w base v0 out) (hb : base ≤ w.heap.size) (hl : out.length ≤ 35184372088832) :
    Calls Try.prog 27 #[v0, .int .i64 f, .int .i32 p] w (WSome base w v0 (out ++ [byteV f p])) := by
  have HO := Lib.hid hO
  have HL := Lib.hid hl
  have HBB := Lib.hid hb
  have HC := Lib.hid (byteOf_any f p w)
  have hr : byteV f p ≤ 255 := by rcases byteV_range f p with h | h <;> omega
  generalize byteV f p = k at *
  have b2 : (f == 2) = false := beq_eq_false_iff_ne.mpr h2
  have b6 : (f == 6) = false := beq_eq_false_iff_ne.mpr h6
  have b7 : (f == 7) = false := beq_eq_false_iff_ne.mpr h7
  have b8 : (f == 8) = false := beq_eq_false_iff_ne.mpr h8
  clear hO hl hb h2 h6 h7 h8
  go_enter Try.func27, Try.ntmps27
  go_wp2_with (first
    | (go_at_call 39; ((with_reducible refine HC.out.mono ?_); rintro e w1 ⟨rfl, hB1⟩; have HO2 := Lib.hid (HO.out.below hB1); have HW1 := Lib.hid (Nat.le_trans HBB.out hB1.size); have HB1 := Lib.hid hB1; clear hB1))
    | (at_builtin; refine print_append_num (w0 := w1) base rfl (.tmp 53) (.tmp 56) 22 5 .u8 1 rfl Try.underlying22 infoU8 (by decide) _ out k rfl rfl HO2.out (Below.refl _ _) HW1.out (by have := HL.out; omega) ?_; intro v1 w2 hO3 hB3 hg3 hat3; have HPT := Lib.hid (PutTo.first HO.out HBB.out HB1.out (grown_putTo0 hO3 hB3 hg3 hat3)); clear hO3 hB3 hg3 hat3))
  go_ret2
  exact ⟨_, rfl, HPT.out⟩
set_option maxRecDepth 100000 in
set_option maxHeartbeats 1000000 in
theorem write_none (f p : Int) (v0 : Value) (w : World) (h2 : f ≠ 2) (h6 : f ≠ 6) (h7 : f ≠ 7) (h8 : f ≠ 8) (hv : byteV f p < 0) :
    Calls Try.prog 27 #[v0, .int .i64 f, .int .i32 p] w (WNone w) := by
  have HC := Lib.hid (byteOf_any f p w)
  generalize byteV f p = k at *
  have b2 : (f == 2) = false := beq_eq_false_iff_ne.mpr h2
  have b6 : (f == 6) = false := beq_eq_false_iff_ne.mpr h6
  have b7 : (f == 7) = false := beq_eq_false_iff_ne.mpr h7
  have b8 : (f == 8) = false := beq_eq_false_iff_ne.mpr h8
  clear h2 h6 h7 h8
  go_enter Try.func27, Try.ntmps27
  go_wp2_with (first
    | (go_at_call 39; ((with_reducible refine HC.out.mono ?_); rintro e w1 ⟨rfl, hB1⟩; have HB1 := Lib.hid hB1; clear hB1)))
  go_ret2
  exact ⟨rfl, HB1.out⟩
theorem and1023 (x : Int) (h0 : 0 ≤ x) (h1 : x < 2147483648) : bits BinOp.and IntKind.i32 x 1023 = x % 1024 := bits_mask .i32 31 (by decide) wraps_i32 10 (by decide) x h0 h1
set_option maxRecDepth 100000 in
set_option maxHeartbeats 1000000 in
theorem write_two (f p : Int) (bb : Bool) (base : Nat) (v0 : Value) (out : List Int) (w : World) (hf : (f = 6 ∨ f = 7) ∧ bb = false ∨ f = 8 ∧ bb = true) (h0 : 0 ≤ p) (h1 : p < 65536) (hO : ORow .u8 5 w base v0 out) (hb : base ≤ w.heap.size) (hl : out.length ≤ 35184372088832) :
    Calls Try.prog 27 #[v0, .int .i64 f, .int .i32 p] w (WSome base w v0 (out ++ put2 p bb)) := by
  have HC := Lib.hid (cput_any p bb base v0 out w h0 (by omega) hO hb hl)
  unfold PutPost2 at HC
  generalize put2 p bb = ps at *
  clear hO hb hl
  rcases hf with ⟨rfl | rfl, rfl⟩ | ⟨rfl, rfl⟩
  all_goals
    go_enter Try.func27, Try.ntmps27
    go_wp2_with (first
      | (go_at_call 26; ((with_reducible refine HC.out.mono ?_); rintro e w1 ⟨v, rfl, hPT⟩; have HPT := Lib.hid hPT; clear hPT)))
    go_ret2
    exact ⟨_, rfl, HPT.out⟩
set_option maxRecDepth 100000 in
set_option maxHeartbeats 1000000 in
theorem write_four (f p : Int) (bb : Bool) (base : Nat) (v0 : Value) (out : List Int) (w : World) (hf : (f = 6 ∨ f = 7) ∧ bb = false ∨ f = 8 ∧ bb = true) (h0 : 65536 ≤ p) (h1 : p < 1114112) (hO : ORow .u8 5 w base v0 out) (hb : base ≤ w.heap.size) (hl : out.length ≤ 17592186044416) :
    Calls Try.prog 27 #[v0, .int .i64 f, .int .i32 p] w (WSome base w v0 (out ++ (put2 (55296 + (p - 65536) / 1024) bb ++ put2 (56320 + (p - 65536) % 1024) bb))) := by
  have HC := Lib.hid (cput_any (55296 + (p - 65536) / 1024) bb base v0 out w (by omega) (by omega) hO hb (by omega))
  have hpl := put2_len (55296 + (p - 65536) / 1024) bb
  have HC2 := Lib.hid (fun W v1 h1 h2 => cput_any (56320 + (p - 65536) % 1024) bb base v1 (out ++ put2 (55296 + (p - 65536) / 1024) bb) W (by omega) (by omega) h1 h2 (by rw [List.length_append, hpl]; omega))
  rw [← List.append_assoc]
  unfold PutPost2 at HC HC2
  have HAND := Lib.hid (and1023 (p - 65536) (by omega) (by omega))
  have HBB := Lib.hid hb
  generalize put2 (55296 + (p - 65536) / 1024) bb = ps at *
  generalize put2 (56320 + (p - 65536) % 1024) bb = qs at *
  clear hO hb hl hpl
  rcases hf with ⟨rfl | rfl, rfl⟩ | ⟨rfl, rfl⟩
  all_goals
    have hand := HAND.out
    go_enter Try.func27, Try.ntmps27
    go_wp2_with (first
      | (go_at_call 26; ((with_reducible refine HC.out.mono ?_); rintro e w1 ⟨v, rfl, hPT⟩; have HPT := Lib.hid hPT; clear hPT))
      | (go_at_call 26; ((with_reducible refine (HC2.out _ _ HPT.out.own (Nat.le_trans HBB.out HPT.out.size)).mono ?_); rintro e w2 ⟨v2, rfl, hPT2⟩; have HPT2 := Lib.hid (HPT.out.trans hPT2); clear hPT2)))
    go_ret2
    exact ⟨_, rfl, HPT2.out⟩
end Go.Proofs.Ytpbgpbblbohmgaa
namespace Go.Proofs.Ytpbgpbblbohmgaa
open Go.RowKit Go.Proofs.YtpbgpbblbohmgaaW.PrintWords

/-- Points' bytes in a set; the place of the point that has none. -/
def encF (f : Int) : List Int → List Int × Option Nat
  | [] => ([], none)
  | p :: t => match writeV f p with
    | none => ([], some 0)
    | some bs => (bs ++ (encF f t).1, (encF f t).2.map (· + (putB p).length))
def bomV (f : Int) : List Int := if f = 6 then [254, 255] else []
def resE (f : Int) (d : List Int × Option Nat) : List Int × Int × Int := match d.2 with | none => (bomV f ++ d.1, 0, 0) | some n => ([], n, 10)
def encodeV (s : ByteArray) (l : List Int) : List Int × Int × Int :=
  if formV s = 0 then ([], 0, 143) else if (ptsV l).2.2 = 0 then resE (formV s) (encF (formV s) (ptsV l).1) else ([], (ptsV l).2.1, (ptsV l).2.2)
theorem encF_nil (f : Int) : encF f [] = ([], none) := rfl
theorem encF_none {f p : Int} {t : List Int} (h : writeV f p = none) : encF f (p :: t) = ([], some 0) := by simp [encF, h]
theorem encF_some {f p : Int} {t bs : List Int} (h : writeV f p = some bs) : encF f (p :: t) = joinD bs (putB p).length (encF f t) := by simp [encF, h, joinD]
theorem put2_le2 (u : Int) (b : Bool) : (put2 u b).length ≤ 2 := by rw [put2_len]; omega
theorem writeV_len {f p : Int} {bs : List Int} (h : writeV f p = some bs) : bs.length ≤ 4 := by
  unfold writeV at h
  have h2 := put2_len p (f == 8)
  have h3 := put2_len (55296 + (p - 65536) / 1024) (f == 8)
  have h4 := put2_len (56320 + (p - 65536) % 1024) (f == 8)
  repeat' split at h
  all_goals first
    | (injection h with h; subst h; first | exact putB_len p | (simp only [List.length_append]; omega) | omega | simp)
    | cases h
theorem ORow.keep_ {k : IntKind} {e : TypeId} {w w' : World} {base : Nat} {v : Value} {xs : List Int} (h : ORow k e w base v xs) (hb : ∀ g, v.ownBlock = some g → w'.heap[g]? = w.heap[g]?) : ORow k e w' base v xs := by
  obtain ⟨h1, h2⟩ := h
  refine ⟨h1, ?_⟩
  rcases h2 with h2 | ⟨g, cap, cur, rfl, hg, hh, r⟩
  · exact .inl h2
  · exact .inr ⟨g, cap, cur, rfl, hg, (hb g rfl).trans hh, r⟩
theorem PutTo.row {base : Nat} {w w' : World} {v0 v u : Value} {xs ys zs : List Int} (h : PutTo base w w' v0 v xs) (h0 : ORow .u8 5 w base v0 ys) (hu : ORow .i32 21 w base u zs) : ORow .i32 21 w' base u zs := by
  refine hu.keep_ fun g hg => h.keep g (hu.lt g hg).2 ?_
  rcases own_type_ne hu h0 (by decide) with e | e
  · rw [e] at hg; cases hg
  · rw [hg] at e; exact e
theorem write_any (f p : Int) (base : Nat) (v0 : Value) (out : List Int) (w : World) (hp : isPt p = true) (hO : ORow .u8 5 w base v0 out) (hb : base ≤ w.heap.size) (hl : out.length ≤ 17592186044416) {bs : List Int} (h : writeV f p = some bs) :
    Calls Try.prog 27 #[v0, .int .i64 f, .int .i32 p] w (WSome base w v0 (out ++ bs)) := by
  have hpb := isPt_bd hp
  unfold writeV at h
  by_cases h2 : f = 2
  · rw [if_pos h2] at h; injection h with h; subst h; subst h2
    exact write_utf p base v0 out w hp hO hb (by omega)
  · rw [if_neg h2] at h
    by_cases h6 : f = 6 ∨ f = 7 ∨ f = 8
    · rw [if_pos h6] at h
      injection h with h
      have hf : (f = 6 ∨ f = 7) ∧ (f == 8) = false ∨ f = 8 ∧ (f == 8) = true := by
        rcases h6 with h | h | h
        · exact .inl ⟨.inl h, by rw [h]; rfl⟩
        · exact .inl ⟨.inr h, by rw [h]; rfl⟩
        · exact .inr ⟨h, by rw [h]; rfl⟩
      by_cases hlt : p < 65536
      · rw [if_pos hlt] at h; subst h
        exact write_two f p _ base v0 out w hf hpb.1 hlt hO hb (by omega)
      · rw [if_neg hlt] at h; subst h
        exact write_four f p _ base v0 out w hf (by omega) (by omega) hO hb hl
    · rw [if_neg h6] at h
      by_cases hv : byteV f p < 0
      · rw [if_pos hv] at h; cases h
      · rw [if_neg hv] at h; injection h with h; subst h
        exact write_one f p base v0 out w h2 (fun e => h6 (.inl e)) (fun e => h6 (.inr (.inl e))) (fun e => h6 (.inr (.inr e))) (by omega) hO hb (by omega)
theorem write_any_none (f p : Int) (v0 : Value) (w : World) (h : writeV f p = none) : Calls Try.prog 27 #[v0, .int .i64 f, .int .i32 p] w (WNone w) := by
  unfold writeV at h
  by_cases h2 : f = 2
  · rw [if_pos h2] at h; cases h
  · rw [if_neg h2] at h
    by_cases h6 : f = 6 ∨ f = 7 ∨ f = 8
    · rw [if_pos h6] at h; cases h
    · rw [if_neg h6] at h
      by_cases hv : byteV f p < 0
      · exact write_none f p v0 w h2 (fun e => h6 (.inl e)) (fun e => h6 (.inr (.inl e))) (fun e => h6 (.inr (.inr e))) hv
      · rw [if_neg hv] at h; cases h
set_option maxRecDepth 100000 in
set_option maxHeartbeats 1000000 in
theorem encode_no (s : ByteArray) (A : Option Addr) (l : List Int) (c : Nat) (w : World) (hs : s.size ≤ 9223372036854775807) (hl : l.length ≤ 1048576) (hf : formV s = 0) :
    Calls Try.prog 14 #[.string s, .slice A l.length c] w (TxtPost w (encodeV s l)) := by
  have HD : Hid (encodeV s l = ([], 0, 143)) := Lib.hid (by rw [encodeV, if_pos hf])
  have HC := Lib.hid (fun W => fits_any s A l.length c W hs hl)
  have HE : Hid (fitsE s = 143) := Lib.hid (by rw [fitsE, if_pos hf])
  unfold FitsPost at HC
  rw [HE.out, hf] at HC
  clear hf
  go_enter Try.func14, Try.ntmps14
  go_wp2_with (first
    | (go_at_call 19; ((with_reducible refine (HC.out _).mono ?_); rintro e w1 ⟨rfl, hB⟩; have HF1 := Lib.hid (blk_below (heap_alloc_new w (.cells #[.int .i64 0, .int .i64 0] 26)) hB); have HB1 := Lib.hid (below_then (below_first _) (below_first _).size hB); have c0 : w1.cell? ⟨w.heap.size, 0, none⟩ = some (.int .i64 0) := (blk_cell HF1.out 0).trans rfl; have c1 : w1.cell? ⟨w.heap.size, 1, none⟩ = some (.int .i64 0) := (blk_cell HF1.out 1).trans rfl; have z0 := blk_frozen HF1.out 0; have z1 := blk_frozen HF1.out 1; have hszz : w.heap.size < w1.heap.size := blk_lt HF1.out; clear hB)))
  go_region
  go_wp2
  have HF2 := blk_below (blk_set (blk_set HF1.out 0 (.int .i64 0)) 1 (.int .i64 143)) (below_first (.cells #[.int .i64 0, .int .i64 143] 26))
  refine bodyPost_ret (results_tc rfl _ _ _ _ _ _ _ rfl HF2 Try.underlying26 rfl (by kernel_rfl)) rfl ?_
  rw [HD.out]
  exact ⟨_, rfl, ORow.nil _ _ _ _, b_drew (below_alloc (below_set (below_set HB1.out (Nat.le_refl _)) (Nat.le_refl _)) _)⟩
set_option maxRecDepth 100000 in
set_option maxHeartbeats 1000000 in
theorem encode_bad (s : ByteArray) (A : Option Addr) (l : List Int) (c : Nat) (w : World) (hr : ReadsInt w .u8 A l.length l) (hby : Bytes l) (hc : l.length ≤ c) (hs : s.size ≤ 9223372036854775807) (hl : l.length ≤ 1048576) (hf : formV s ≠ 0) (hcd : (ptsV l).2.2 ≠ 0) :
    Calls Try.prog 14 #[.string s, .slice A l.length c] w (TxtPost w (encodeV s l)) := by
  have HC := Lib.hid (fun W => fits_any s A l.length c W hs hl)
  have HE : Hid (fitsE s = 0) := Lib.hid (by rw [fitsE, if_neg hf])
  have HP := Lib.hid (fun W h => points_any A l c W h hby hc (by omega))
  have HD2 : Hid (encodeV s l = ([], (ptsV l).2.1, (ptsV l).2.2)) := Lib.hid (by rw [encodeV, if_neg hf, if_neg hcd])
  have HR := Lib.hid hr
  unfold FitsPost at HC
  rw [HE.out] at HC
  generalize formV s = f at *
  generalize ptsV l = r at *
  obtain ⟨ps, at_, cd⟩ := r
  simp only at hcd HD2
  clear hf hr hby hl
  have b0 : (cd != 0) = true := bne_iff_ne.mpr hcd
  have b1 : (cd == 0) = false := beq_eq_false_iff_ne.mpr hcd
  clear hcd
  go_enter Try.func14, Try.ntmps14
  go_wp2_with (first
    | (go_at_call 19; ((with_reducible refine (HC.out _).mono ?_); rintro e w1 ⟨rfl, hB⟩; have HF1 := Lib.hid (blk_below (heap_alloc_new w (.cells #[.int .i64 0, .int .i64 0] 26)) hB); have HB1 := Lib.hid (below_then (below_first _) (below_first _).size hB); have hszz : w.heap.size < w1.heap.size := blk_lt HF1.out; clear hB))
    | (go_at_call 15; ((with_reducible refine (HP.out _ (HR.out.below (below_alloc HB1.out _))).mono ?_); rintro e w2 ⟨v, rfl, hO, hB⟩; have HG2 := Lib.hid (blk_below (heap_alloc_new w1 (.cells #[.int .i64 0, .int .i64 0] 26)) hB); have HF2 := Lib.hid (blk_below (blk_below HF1.out (below_first (.cells #[.int .i64 0, .int .i64 0] 26))) hB); have HB2 := Lib.hid (below_then (below_alloc HB1.out _) (below_alloc HB1.out _).size hB); have c0 : w2.cell? ⟨w1.heap.size, 0, none⟩ = some (.int .i64 0) := (blk_cell HG2.out 0).trans rfl; have c1 : w2.cell? ⟨w1.heap.size, 1, none⟩ = some (.int .i64 0) := (blk_cell HG2.out 1).trans rfl; have z0 := blk_frozen HG2.out 0; have z1 := blk_frozen HG2.out 1; clear hO hB)))
  have HG5 := Lib.hid (blk_set (blk_set HG2.out 0 (.int .i64 at_)) 1 (.int .i64 cd))
  have HF5 := Lib.hid (blk_far (blk_far HF2.out (p := ⟨w1.heap.size, 0, none⟩) (Nat.ne_of_lt hszz) (.int .i64 at_)) (p := ⟨w1.heap.size, 1, none⟩) (Nat.ne_of_lt hszz) (.int .i64 cd))
  have HB5 := Lib.hid (below_set (below_set HB2.out (Nat.le_of_lt hszz) (j := 0) (v := .int .i64 at_)) (Nat.le_of_lt hszz) (j := 1) (v := .int .i64 cd))
  clear c0 c1 z0 z1
  generalize (w2.setCell ⟨w1.heap.size, 0, none⟩ (.int .i64 at_)).setCell ⟨w1.heap.size, 1, none⟩ (.int .i64 cd) = w5 at *
  have c0 : w5.cell? ⟨w1.heap.size, 0, none⟩ = some (.int .i64 at_) := (blk_cell HG5.out 0).trans rfl
  have c1 : w5.cell? ⟨w1.heap.size, 1, none⟩ = some (.int .i64 cd) := (blk_cell HG5.out 1).trans rfl
  have d0 : w5.cell? ⟨w.heap.size, 0, none⟩ = some (.int .i64 0) := (blk_cell HF5.out 0).trans rfl
  have d1 : w5.cell? ⟨w.heap.size, 1, none⟩ = some (.int .i64 0) := (blk_cell HF5.out 1).trans rfl
  have z0 := blk_frozen HF5.out 0
  have z1 := blk_frozen HF5.out 1
  clear hszz
  go_region
  go_wp2
  have HF6 := blk_set (blk_set HF5.out 0 (.int .i64 at_)) 1 (.int .i64 cd)
  refine bodyPost_ret (results_tc rfl _ _ _ _ _ _ _ rfl HF6 Try.underlying26 rfl (by kernel_rfl)) rfl ?_
  rw [HD2.out]
  exact ⟨_, rfl, ORow.nil _ _ _ _, b_drew (below_set (below_set HB5.out (Nat.le_refl _)) (Nat.le_refl _))⟩
end Go.Proofs.Ytpbgpbblbohmgaa
namespace Go.Proofs.Ytpbgpbblbohmgaa
open Go.RowKit Go.Proofs.YtpbgpbblbohmgaaW.PrintWords

theorem encF_len (f : Int) : ∀ ps : List Int, (encF f ps).1.length ≤ 4 * ps.length
  | [] => by simp [encF]
  | p :: t => by
    have ih := encF_len f t
    rcases h : writeV f p with _ | bs
    · rw [encF_none h]; simp
    · have := writeV_len h
      rw [encF_some h]; simp [joinD]; omega
set_option maxRecDepth 100000 in
set_option maxHeartbeats 4000000 in
theorem encode_main (s : ByteArray) (A : Option Addr) (l : List Int) (c : Nat) (w : World) (hr : ReadsInt w .u8 A l.length l) (hby : Bytes l) (hc : l.length ≤ c) (hs : s.size ≤ 9223372036854775807) (hl : l.length ≤ 1048576) (hf : formV s ≠ 0) (hcd : (ptsV l).2.2 = 0) :
    Calls Try.prog 14 #[.string s, .slice A l.length c] w (TxtPost w (encodeV s l)) := by
  have HC := Lib.hid (fun W => fits_any s A l.length c W hs hl)
  have HE : Hid (fitsE s = 0) := Lib.hid (by rw [fitsE, if_neg hf])
  have HP := Lib.hid (fun W h => points_any A l c W h hby hc (by omega))
  have hv : vldV l = true := by
    rw [ptsV_code] at hcd
    cases h : vldV l with
    | true => rfl
    | false => rw [h] at hcd; simp at hcd
  obtain ⟨ps, hps, hle, hpv⟩ := ptsV_valid l hby hv
  have hpl : ps.length ≤ l.length := by
    have h := dec_len l.length l
    have e : (ptsV l).1.length ≤ l.length := by rw [ptsV_res]; exact resV_len h
    rw [hpv] at e; exact e
  have HD : Hid (encodeV s l = resE (formV s) (encF (formV s) ps)) := Lib.hid (by rw [encodeV, if_neg hf, if_pos hcd, hpv])
  have HR := Lib.hid hr
  unfold FitsPost at HC
  rw [HE.out] at HC
  rw [hpv] at HP
  have HALL := Lib.hid hps
  have hpl2 : ps.length ≤ 1048576 := by omega
  generalize formV s = f at *
  generalize encodeV s l = V at *
  clear hf hr hby hl hcd hv hle hpv hpl hps
  have hcase : f = 6 ∨ f ≠ 6 := by omega
  rcases hcase with h6 | h6
  · have b6 : (f == 6) = true := beq_iff_eq.mpr h6
    have HBM : Hid (bomV f = [254, 255]) := Lib.hid (by rw [bomV, if_pos h6])
    clear h6
    go_enter Try.func14, Try.ntmps14
    go_wp2_with (first
      | (go_at_call 19; ((with_reducible refine (HC.out _).mono ?_); rintro e w1 ⟨rfl, hB⟩; have HF1 := Lib.hid (blk_below (heap_alloc_new w (.cells #[.int .i64 0, .int .i64 0] 26)) hB); have HB1 := Lib.hid (below_then (below_first _) (below_first _).size hB); have hszz : w.heap.size < w1.heap.size := blk_lt HF1.out; clear hB))
      | (go_at_call 15; ((with_reducible refine (HP.out _ (HR.out.below (below_alloc HB1.out _))).mono ?_); rintro e w2 ⟨v, rfl, hO, hB⟩; obtain ⟨A2, c2, rfl, hc2, hRx⟩ := hO.reads; clear hRx hc2; have HG2 := Lib.hid (blk_below (heap_alloc_new w1 (.cells #[.int .i64 0, .int .i64 0] 26)) hB); have HF2 := Lib.hid (blk_below (blk_below HF1.out (below_first (.cells #[.int .i64 0, .int .i64 0] 26))) hB); have HO2 := Lib.hid (ORow.lower (base' := w.heap.size) hO (below_alloc HB1.out _).size); have HB2 := Lib.hid (below_then (below_alloc HB1.out _) (below_alloc HB1.out _).size hB); have c0 : w2.cell? ⟨w1.heap.size, 0, none⟩ = some (.int .i64 0) := (blk_cell HG2.out 0).trans rfl; have c1 : w2.cell? ⟨w1.heap.size, 1, none⟩ = some (.int .i64 0) := (blk_cell HG2.out 1).trans rfl; have z0 := blk_frozen HG2.out 0; have z1 := blk_frozen HG2.out 1; have HF5 := Lib.hid (blk_far (blk_far HF2.out (p := ⟨w1.heap.size, 0, none⟩) (Nat.ne_of_lt hszz) (.int .i64 0)) (p := ⟨w1.heap.size, 1, none⟩) (Nat.ne_of_lt hszz) (.int .i64 0)); have HB5 := Lib.hid (below_set (below_set HB2.out (Nat.le_of_lt hszz) (j := 0) (v := .int .i64 0)) (Nat.le_of_lt hszz) (j := 1) (v := .int .i64 0)); have HP5 := Lib.hid ((HO2.out.set_ HG2.out (by decide) 0 (.int .i64 0)).set_ (blk_set HG2.out 0 _) (by decide) 1 (.int .i64 0)); have HSZ5 : Hid (w.heap.size ≤ ((w2.setCell ⟨w1.heap.size, 0, none⟩ (.int .i64 0)).setCell ⟨w1.heap.size, 1, none⟩ (.int .i64 0)).heap.size) := Lib.hid HB5.out.size; clear hO hB))
      | (go_at_call 26; ((with_reducible refine (cput_any 65279 false w.heap.size (.slice none 0 0) [] _ (by omega) (by omega) (ORow.nil _ _ _ _) HSZ5.out (by simp)).mono ?_); rintro e w3 ⟨v3, rfl, hPT⟩; have HO9 : Hid (ORow .u8 5 w3 w.heap.size v3 (bomV f)) := Lib.hid (by rw [HBM.out]; exact hPT.own); have HF9 := Lib.hid (hPT.blk (ORow.nil _ _ _ _) HF5.out (by decide)); have HP9 := Lib.hid (hPT.row (ORow.nil _ _ _ _) HP5.out); have HB9 : Hid (Below w.heap.size w w3) := Lib.hid (HB5.out.trans hPT.bel); clear hPT)))
    go_loopw [9, 10, 42] (fun s9 s10 s42 wr => ∃ (acc : List Int) (at_ n : Nat), n ≤ ps.length ∧ s42 = .int .i64 n ∧ s10 = .int .i64 at_ ∧ at_ ≤ 4 * n ∧ Hid (ORow .u8 5 wr w.heap.size s9 (bomV f ++ acc)) ∧ Hid (wr.heap[w.heap.size]? = some (.cells #[.int .i64 0, .int .i64 0] 26 (0, 0))) ∧ Hid (Below w.heap.size w wr) ∧ Hid (ORow .i32 21 wr w.heap.size (.slice A2 ps.length c2) ps) ∧ Hid (encF f ps = joinD acc at_ (encF f (ps.drop n))) ∧ Hid (acc.length ≤ 4 * n)) (fun _ _ s42 _ => ps.length - (intOf s42).toNat)
    case atStart => exact ⟨[], 0, 0, Nat.zero_le _, rfl, rfl, Nat.le_refl _, Lib.hid (by rw [List.append_nil]; exact HO9.out), HF9, HB9, HP9, Lib.hid (by simp [joinD]), Lib.hid (Nat.zero_le _)⟩
    case round =>
      obtain ⟨acc, at_, n, hn, rfl, rfl, hat, HO, HF, HB, HPS, HDD, HA⟩ := hrel
      have HW : Hid (w.heap.size ≤ wr.heap.size) := Lib.hid HB.out.size
      have HBL : Hid ((bomV f).length ≤ 2) := Lib.hid (by unfold bomV; split <;> simp)
      by_cases hlt : n < ps.length
      · obtain ⟨ad, hA2, hcell⟩ := (own_reads' HPS.out).at_ (n : Int) (by omega) (by omega)
        subst hA2
        simp only [Int.toNat_natCast] at hcell
        have HEX : Hid (ps.drop n = rd ps (n : Int) :: ps.drop (n + 1)) := Lib.hid (by rw [rd_lt ps n hlt]; exact List.drop_eq_getElem_cons hlt)
        have HPT : Hid (isPt (rd ps (n : Int)) = true) := Lib.hid (by rw [rd_lt ps n hlt]; exact HALL.out _ (List.getElem_mem hlt))
        generalize rd ps (n : Int) = p at *
        have hlen : (bomV f ++ acc).length ≤ 17592186044416 := by have := HA.out; have := HBL.out; rw [List.length_append]; omega
        rcases hwv : writeV f p with _ | bs
        · have HCW := Lib.hid (fun v0 => write_any_none f p v0 wr hwv)
          unfold WNone at HCW
          have HV2 : Hid (V = ([], (at_ : Int), 10)) := Lib.hid (by
            rw [HD.out]
            have h2 := HDD.out
            rw [HEX.out, encF_none hwv] at h2
            simp [resE, h2, joinD])
          clear hwv hlen
          go_wp2_with (first
            | (go_at_call 27; ((with_reducible refine (HCW.out _).mono ?_); rintro e w4 ⟨rfl, hB4⟩; have HF4 := Lib.hid (blk_below HF.out hB4); have HB4 := Lib.hid (below_then HB.out HW.out hB4); have c0 : w4.cell? ⟨w.heap.size, 0, none⟩ = some (.int .i64 0) := (blk_cell HF4.out 0).trans rfl; have c1 : w4.cell? ⟨w.heap.size, 1, none⟩ = some (.int .i64 0) := (blk_cell HF4.out 1).trans rfl; have z0 := blk_frozen HF4.out 0; have z1 := blk_frozen HF4.out 1; clear hB4)))
          have HF8 := blk_set (blk_set HF4.out 0 (.int .i64 (at_ : Int))) 1 (.int .i64 10)
          refine bodyPost_ret (results_tc rfl _ _ _ _ _ _ _ rfl HF8 Try.underlying26 rfl (by kernel_rfl)) rfl ?_
          rw [HV2.out]
          exact ⟨_, rfl, ORow.nil _ _ _ _, below_set (below_set HB4.out (Nat.le_refl _)) (Nat.le_refl _)⟩
        · have HCW := Lib.hid (write_any f p w.heap.size _ (bomV f ++ acc) wr HPT.out HO.out HW.out hlen hwv)
          unfold WSome at HCW
          have HD2 : Hid (encF f ps = joinD (acc ++ bs) (at_ + (putB p).length) (encF f (ps.drop (n + 1)))) := Lib.hid (by rw [HDD.out, HEX.out, encF_some hwv, joinD_joinD])
          have HBS := Lib.hid (writeV_len hwv)
          have HPB := Lib.hid (putB_len p)
          have HCP := Lib.hid (fun W => put_ok p W HPT.out)
          clear hwv hlen HDD HEX
          generalize putB p = pb at *
          have hpb : pb.length ≤ 4 := HPB.out
          go_wp2_with (first
            | (go_at_call 27; ((with_reducible refine HCW.out.mono ?_); rintro e w4 ⟨v4, rfl, hPT4⟩; have HO4 := Lib.hid hPT4.own; have HF4 := Lib.hid (hPT4.blk HO.out HF.out (by decide)); have HP4 := Lib.hid (hPT4.row HO.out HPS.out); have HB4 : Hid (Below w.heap.size w w4) := Lib.hid (HB.out.trans hPT4.bel); have HW4 : Hid (w.heap.size ≤ w4.heap.size) := Lib.hid HB4.out.size; clear hPT4))
            | (go_at_call 28; ((with_reducible refine (HCP.out _).mono ?_); rintro e w5 ⟨v5, rfl, hO5, hB5⟩; obtain ⟨A5, c5, rfl, _, _⟩ := hO5.reads; have HO5 := Lib.hid (HO4.out.below hB5); have HF5 := Lib.hid (blk_below HF4.out hB5); have HP5 := Lib.hid (HP4.out.below hB5); have HB5 := Lib.hid (below_then HB4.out HW4.out hB5); clear hO5 hB5)))
          go_roundw
          case rel => exact ⟨acc ++ bs, at_ + pb.length, n + 1, hlt, by go_num, by go_num, by omega, Lib.hid (by rw [← List.append_assoc]; exact HO5.out), HF5, HB5, HP5, HD2, Lib.hid (by have := HA.out; have := HBS.out; simp; omega)⟩
          case measure => simp [intOf]; omega
      · have hnl : n = ps.length := by omega
        have HV2 : Hid (V = (bomV f ++ acc, 0, 0)) := Lib.hid (by
          rw [HD.out]
          have h2 := HDD.out
          rw [hnl, List.drop_length, encF_nil] at h2
          simp [resE, h2, joinD])
        have c0 : wr.cell? ⟨w.heap.size, 0, none⟩ = some (.int .i64 0) := (blk_cell HF.out 0).trans rfl
        have c1 : wr.cell? ⟨w.heap.size, 1, none⟩ = some (.int .i64 0) := (blk_cell HF.out 1).trans rfl
        have z0 := blk_frozen HF.out 0
        have z1 := blk_frozen HF.out 1
        clear hnl
        go_wp2
        have HF1 := blk_set (blk_set HF.out 0 (.int .i64 0)) 1 (.int .i64 0)
        refine bodyPost_ret (results_tc rfl _ _ _ _ _ _ _ rfl HF1 Try.underlying26 rfl (by kernel_rfl)) rfl ?_
        rw [HV2.out]
        exact ⟨_, rfl, (HO.out.set_ HF.out (by decide) 0 _).set_ (blk_set HF.out 0 _) (by decide) 1 _, below_set (below_set HB.out (Nat.le_refl _)) (Nat.le_refl _)⟩
  · have b6 : (f == 6) = false := beq_eq_false_iff_ne.mpr h6
    have HBM : Hid (bomV f = []) := Lib.hid (by rw [bomV, if_neg h6])
    clear h6
    go_enter Try.func14, Try.ntmps14
    go_wp2_with (first
      | (go_at_call 19; ((with_reducible refine (HC.out _).mono ?_); rintro e w1 ⟨rfl, hB⟩; have HF1 := Lib.hid (blk_below (heap_alloc_new w (.cells #[.int .i64 0, .int .i64 0] 26)) hB); have HB1 := Lib.hid (below_then (below_first _) (below_first _).size hB); have hszz : w.heap.size < w1.heap.size := blk_lt HF1.out; clear hB))
      | (go_at_call 15; ((with_reducible refine (HP.out _ (HR.out.below (below_alloc HB1.out _))).mono ?_); rintro e w2 ⟨v, rfl, hO, hB⟩; obtain ⟨A2, c2, rfl, hc2, hRx⟩ := hO.reads; clear hRx hc2; have HG2 := Lib.hid (blk_below (heap_alloc_new w1 (.cells #[.int .i64 0, .int .i64 0] 26)) hB); have HF2 := Lib.hid (blk_below (blk_below HF1.out (below_first (.cells #[.int .i64 0, .int .i64 0] 26))) hB); have HO2 := Lib.hid (ORow.lower (base' := w.heap.size) hO (below_alloc HB1.out _).size); have HB2 := Lib.hid (below_then (below_alloc HB1.out _) (below_alloc HB1.out _).size hB); have c0 : w2.cell? ⟨w1.heap.size, 0, none⟩ = some (.int .i64 0) := (blk_cell HG2.out 0).trans rfl; have c1 : w2.cell? ⟨w1.heap.size, 1, none⟩ = some (.int .i64 0) := (blk_cell HG2.out 1).trans rfl; have z0 := blk_frozen HG2.out 0; have z1 := blk_frozen HG2.out 1; have HF5 := Lib.hid (blk_far (blk_far HF2.out (p := ⟨w1.heap.size, 0, none⟩) (Nat.ne_of_lt hszz) (.int .i64 0)) (p := ⟨w1.heap.size, 1, none⟩) (Nat.ne_of_lt hszz) (.int .i64 0)); have HB5 := Lib.hid (below_set (below_set HB2.out (Nat.le_of_lt hszz) (j := 0) (v := .int .i64 0)) (Nat.le_of_lt hszz) (j := 1) (v := .int .i64 0)); have HP5 := Lib.hid ((HO2.out.set_ HG2.out (by decide) 0 (.int .i64 0)).set_ (blk_set HG2.out 0 _) (by decide) 1 (.int .i64 0)); have HSZ5 : Hid (w.heap.size ≤ ((w2.setCell ⟨w1.heap.size, 0, none⟩ (.int .i64 0)).setCell ⟨w1.heap.size, 1, none⟩ (.int .i64 0)).heap.size) := Lib.hid HB5.out.size; clear hO hB)))
    have HO9 : Hid (ORow .u8 5 ((w2.setCell ⟨w1.heap.size, 0, none⟩ (.int .i64 0)).setCell ⟨w1.heap.size, 1, none⟩ (.int .i64 0)) w.heap.size (.slice none 0 0) (bomV f)) := Lib.hid (by rw [HBM.out]; exact ORow.nil _ _ _ _)
    have HF9 := HF5
    have HB9 := HB5
    have HP9 := HP5
    go_loopw [9, 10, 42] (fun s9 s10 s42 wr => ∃ (acc : List Int) (at_ n : Nat), n ≤ ps.length ∧ s42 = .int .i64 n ∧ s10 = .int .i64 at_ ∧ at_ ≤ 4 * n ∧ Hid (ORow .u8 5 wr w.heap.size s9 (bomV f ++ acc)) ∧ Hid (wr.heap[w.heap.size]? = some (.cells #[.int .i64 0, .int .i64 0] 26 (0, 0))) ∧ Hid (Below w.heap.size w wr) ∧ Hid (ORow .i32 21 wr w.heap.size (.slice A2 ps.length c2) ps) ∧ Hid (encF f ps = joinD acc at_ (encF f (ps.drop n))) ∧ Hid (acc.length ≤ 4 * n)) (fun _ _ s42 _ => ps.length - (intOf s42).toNat)
    case atStart => exact ⟨[], 0, 0, Nat.zero_le _, rfl, rfl, Nat.le_refl _, Lib.hid (by rw [List.append_nil]; exact HO9.out), HF9, HB9, HP9, Lib.hid (by simp [joinD]), Lib.hid (Nat.zero_le _)⟩
    case round =>
      obtain ⟨acc, at_, n, hn, rfl, rfl, hat, HO, HF, HB, HPS, HDD, HA⟩ := hrel
      have HW : Hid (w.heap.size ≤ wr.heap.size) := Lib.hid HB.out.size
      have HBL : Hid ((bomV f).length ≤ 2) := Lib.hid (by unfold bomV; split <;> simp)
      by_cases hlt : n < ps.length
      · obtain ⟨ad, hA2, hcell⟩ := (own_reads' HPS.out).at_ (n : Int) (by omega) (by omega)
        subst hA2
        simp only [Int.toNat_natCast] at hcell
        have HEX : Hid (ps.drop n = rd ps (n : Int) :: ps.drop (n + 1)) := Lib.hid (by rw [rd_lt ps n hlt]; exact List.drop_eq_getElem_cons hlt)
        have HPT : Hid (isPt (rd ps (n : Int)) = true) := Lib.hid (by rw [rd_lt ps n hlt]; exact HALL.out _ (List.getElem_mem hlt))
        generalize rd ps (n : Int) = p at *
        have hlen : (bomV f ++ acc).length ≤ 17592186044416 := by have := HA.out; have := HBL.out; rw [List.length_append]; omega
        rcases hwv : writeV f p with _ | bs
        · have HCW := Lib.hid (fun v0 => write_any_none f p v0 wr hwv)
          unfold WNone at HCW
          have HV2 : Hid (V = ([], (at_ : Int), 10)) := Lib.hid (by
            rw [HD.out]
            have h2 := HDD.out
            rw [HEX.out, encF_none hwv] at h2
            simp [resE, h2, joinD])
          clear hwv hlen
          go_wp2_with (first
            | (go_at_call 27; ((with_reducible refine (HCW.out _).mono ?_); rintro e w4 ⟨rfl, hB4⟩; have HF4 := Lib.hid (blk_below HF.out hB4); have HB4 := Lib.hid (below_then HB.out HW.out hB4); have c0 : w4.cell? ⟨w.heap.size, 0, none⟩ = some (.int .i64 0) := (blk_cell HF4.out 0).trans rfl; have c1 : w4.cell? ⟨w.heap.size, 1, none⟩ = some (.int .i64 0) := (blk_cell HF4.out 1).trans rfl; have z0 := blk_frozen HF4.out 0; have z1 := blk_frozen HF4.out 1; clear hB4)))
          have HF8 := blk_set (blk_set HF4.out 0 (.int .i64 (at_ : Int))) 1 (.int .i64 10)
          refine bodyPost_ret (results_tc rfl _ _ _ _ _ _ _ rfl HF8 Try.underlying26 rfl (by kernel_rfl)) rfl ?_
          rw [HV2.out]
          exact ⟨_, rfl, ORow.nil _ _ _ _, below_set (below_set HB4.out (Nat.le_refl _)) (Nat.le_refl _)⟩
        · have HCW := Lib.hid (write_any f p w.heap.size _ (bomV f ++ acc) wr HPT.out HO.out HW.out hlen hwv)
          unfold WSome at HCW
          have HD2 : Hid (encF f ps = joinD (acc ++ bs) (at_ + (putB p).length) (encF f (ps.drop (n + 1)))) := Lib.hid (by rw [HDD.out, HEX.out, encF_some hwv, joinD_joinD])
          have HBS := Lib.hid (writeV_len hwv)
          have HPB := Lib.hid (putB_len p)
          have HCP := Lib.hid (fun W => put_ok p W HPT.out)
          clear hwv hlen HDD HEX
          generalize putB p = pb at *
          have hpb : pb.length ≤ 4 := HPB.out
          go_wp2_with (first
            | (go_at_call 27; ((with_reducible refine HCW.out.mono ?_); rintro e w4 ⟨v4, rfl, hPT4⟩; have HO4 := Lib.hid hPT4.own; have HF4 := Lib.hid (hPT4.blk HO.out HF.out (by decide)); have HP4 := Lib.hid (hPT4.row HO.out HPS.out); have HB4 : Hid (Below w.heap.size w w4) := Lib.hid (HB.out.trans hPT4.bel); have HW4 : Hid (w.heap.size ≤ w4.heap.size) := Lib.hid HB4.out.size; clear hPT4))
            | (go_at_call 28; ((with_reducible refine (HCP.out _).mono ?_); rintro e w5 ⟨v5, rfl, hO5, hB5⟩; obtain ⟨A5, c5, rfl, _, _⟩ := hO5.reads; have HO5 := Lib.hid (HO4.out.below hB5); have HF5 := Lib.hid (blk_below HF4.out hB5); have HP5 := Lib.hid (HP4.out.below hB5); have HB5 := Lib.hid (below_then HB4.out HW4.out hB5); clear hO5 hB5)))
          go_roundw
          case rel => exact ⟨acc ++ bs, at_ + pb.length, n + 1, hlt, by go_num, by go_num, by omega, Lib.hid (by rw [← List.append_assoc]; exact HO5.out), HF5, HB5, HP5, HD2, Lib.hid (by have := HA.out; have := HBS.out; simp; omega)⟩
          case measure => simp [intOf]; omega
      · have hnl : n = ps.length := by omega
        have HV2 : Hid (V = (bomV f ++ acc, 0, 0)) := Lib.hid (by
          rw [HD.out]
          have h2 := HDD.out
          rw [hnl, List.drop_length, encF_nil] at h2
          simp [resE, h2, joinD])
        have c0 : wr.cell? ⟨w.heap.size, 0, none⟩ = some (.int .i64 0) := (blk_cell HF.out 0).trans rfl
        have c1 : wr.cell? ⟨w.heap.size, 1, none⟩ = some (.int .i64 0) := (blk_cell HF.out 1).trans rfl
        have z0 := blk_frozen HF.out 0
        have z1 := blk_frozen HF.out 1
        clear hnl
        go_wp2
        have HF1 := blk_set (blk_set HF.out 0 (.int .i64 0)) 1 (.int .i64 0)
        refine bodyPost_ret (results_tc rfl _ _ _ _ _ _ _ rfl HF1 Try.underlying26 rfl (by kernel_rfl)) rfl ?_
        rw [HV2.out]
        exact ⟨_, rfl, (HO.out.set_ HF.out (by decide) 0 _).set_ (blk_set HF.out 0 _) (by decide) 1 _, below_set (below_set HB.out (Nat.le_refl _)) (Nat.le_refl _)⟩
theorem encode_any (s : ByteArray) (A : Option Addr) (l : List Int) (c : Nat) (w : World) (hr : ReadsInt w .u8 A l.length l) (hby : Bytes l) (hc : l.length ≤ c) (hs : s.size ≤ 9223372036854775807) (hl : l.length ≤ 1048576) :
    Calls Try.prog 14 #[.string s, .slice A l.length c] w (TxtPost w (encodeV s l)) := by
  by_cases hf : formV s = 0
  · exact encode_no s A l c w hs hl hf
  · by_cases hcd : (ptsV l).2.2 = 0
    · exact encode_main s A l c w hr hby hc hs hl hf hcd
    · exact encode_bad s A l c w hr hby hc hs hl hf hcd
end Go.Proofs.Ytpbgpbblbohmgaa
namespace Go.Proofs.Ytpbgpbblbohmgaa
open Go.RowKit Go.Proofs.YtpbgpbblbohmgaaW.PrintWords

theorem decode_at (s : ByteArray) (A : Option Addr) (l : List Int) (n c : Nat) (r : List Int × Int × Int) (w : World) (hr : ReadsInt w .u8 A n l) (hby : Bytes l) (hc : n ≤ c) (hs : s.size ≤ 9223372036854775807) (hl : l.length ≤ 1048576) (hv : decodeV s l = r) :
    Calls Try.prog 10 #[.string s, .slice A n c] w (TxtPost w r) := by
  subst hv
  obtain rfl : l.length = n := hr.1
  exact decode_any s A l c w hr hby hc hs hl
theorem encode_at (s : ByteArray) (A : Option Addr) (l : List Int) (n c : Nat) (r : List Int × Int × Int) (w : World) (hr : ReadsInt w .u8 A n l) (hby : Bytes l) (hc : n ≤ c) (hs : s.size ≤ 9223372036854775807) (hl : l.length ≤ 1048576) (hv : encodeV s l = r) :
    Calls Try.prog 14 #[.string s, .slice A n c] w (TxtPost w r) := by
  subst hv
  obtain rfl : l.length = n := hr.1
  exact encode_any s A l c w hr hby hc hs hl
theorem alive_1 : decodeV ⟨#[87, 105, 110, 100, 111, 119, 115, 45, 49, 50, 53, 50]⟩ [128] = ([226, 130, 172], 0, 0) := by decide +kernel
theorem alive_2 : encodeV ⟨#[105, 115, 111, 45, 56, 56, 53, 57, 45, 49, 53]⟩ [226, 130, 172] = ([164], 0, 0) := by decide +kernel
theorem alive_3 : encodeV ⟨#[108, 97, 116, 105, 110, 49]⟩ [226, 130, 172] = ([], 0, 10) := by decide +kernel
theorem alive_4 : knownV ⟨#[85, 84, 70, 45, 49, 54, 76, 69]⟩ = true := by decide +kernel
theorem alive_5 : knownV ⟨#[]⟩ = false := by decide +kernel
theorem alive_s : ((strOfNums [226, 130, 172]).toList == [226, 130, 172]) = true := by rw [sn_toList]; decide +kernel
theorem bytes_e : Bytes [226, 130, 172] := by intro x hx; simp at hx; omega
theorem bytes_128 : Bytes [128] := by intro x hx; simp at hx; omega
theorem known_at (s : ByteArray) (b : Bool) (w : World) (hs : s.size ≤ 9223372036854775807) (hb : knownV s = b) :
    Calls Try.prog 12 #[.string s] w fun e w' => e = .returned (.bool b) ∧ Below w.heap.size w w' := hb ▸ known_any s w hs
set_option maxRecDepth 100000 in
set_option maxHeartbeats 4000000 in
theorem alive_any (w : World) : Calls Try.prog 9 #[] w fun e w' => e = .returned (.bool true) ∧ Below w.heap.size w w' := by
  have ss := alive_s
  have HB0 := Lib.hid (below_first (w := w) (.cells #[.int .u8 128] 5))
  have HP := Lib.hid (decode_at ⟨#[87, 105, 110, 100, 111, 119, 115, 45, 49, 50, 53, 50]⟩ (some ⟨w.heap.size, 0, none⟩) [128] 1 1 _ (w.alloc (.cells #[.int .u8 128] 5)) (lit_reads .u8 _ w _ _ _ _ rfl rfl rfl (by simp)) bytes_128 (by decide) (by decide) (by decide) alive_1)
  have HE1 := Lib.hid (fun W A n c h hc => encode_at ⟨#[105, 115, 111, 45, 56, 56, 53, 57, 45, 49, 53]⟩ A [226, 130, 172] n c _ W h bytes_e hc (by decide) (by decide) alive_2)
  have HE2 := Lib.hid (fun W A n c h hc => encode_at ⟨#[108, 97, 116, 105, 110, 49]⟩ A [226, 130, 172] n c _ W h bytes_e hc (by decide) (by decide) alive_3)
  have HK1 := Lib.hid (fun W => known_at ⟨#[85, 84, 70, 45, 49, 54, 76, 69]⟩ _ W (by decide) alive_4)
  have HK2 := Lib.hid (fun W => known_at ⟨#[]⟩ _ W (by decide) alive_5)
  go_enter Try.func9, Try.ntmps9
  go_wp2_with (first
    | (go_at_call 10; ((with_reducible refine HP.out.mono ?_); rintro e w1 ⟨v, rfl, hO, hB⟩; obtain ⟨A1, c1, rfl, hc1, hR1⟩ := (hO.alloc (.cells #[.int .i64 0, .int .i64 0] 26)).reads; have HR1 : Hid (ReadsInt (w1.alloc (.cells #[.int .i64 0, .int .i64 0] 26)) .u8 A1 3 [226, 130, 172]) := Lib.hid hR1; have HC1 : Hid (3 ≤ c1) := Lib.hid hc1; clear hc1; have HB1 := Lib.hid (below_alloc (below_then HB0.out HB0.out.size hB) (.cells #[.int .i64 0, .int .i64 0] 26)); have HG1 := Lib.hid (heap_alloc_new w1 (.cells #[.int .i64 0, .int .i64 0] 26)); clear hO hB hR1))
    | (go_at_call 14; ((with_reducible refine (HE1.out _ _ _ _ HR1.out HC1.out).mono ?_); rintro e w2 ⟨v2, rfl, hO2, hB2⟩; obtain ⟨A2, c2, rfl, hc2, hR2⟩ := (hO2.alloc (.cells #[.int .i64 0, .int .i64 0] 26)).reads; have HR2 : Hid (ReadsInt (w2.alloc (.cells #[.int .i64 0, .int .i64 0] 26)) .u8 A2 1 [164]) := Lib.hid hR2; clear hc2; have HB2 := Lib.hid (below_alloc (below_then HB1.out HB1.out.size hB2) (.cells #[.int .i64 0, .int .i64 0] 26)); have HG2 := Lib.hid (heap_alloc_new w2 (.cells #[.int .i64 0, .int .i64 0] 26)); have HG1 := Lib.hid (blk_below (blk_below HG1.out hB2) (below_first (.cells #[.int .i64 0, .int .i64 0] 26))); have HR1 := Lib.hid ((HR1.out.below hB2).below (below_first (.cells #[.int .i64 0, .int .i64 0] 26))); clear hO2 hB2 hR2))
    | (go_at_call 14; ((with_reducible refine (HE2.out _ _ _ _ HR1.out HC1.out).mono ?_); rintro e w3 ⟨v3, rfl, hO3, hB3⟩; have HB3 := Lib.hid (below_then HB2.out HB2.out.size hB3); have HR3 : ReadsInt (w3.alloc (.cells #[.int .i64 0, .int .i64 10] 26)) .u8 A1 3 [226, 130, 172] := (HR1.out.below hB3).below (below_first _); have kcv := string_of_reads (P := Try.prog) (c := c1) Try.underlying22 Try.underlying5 Try.underlying9 HR3; obtain ⟨ad2, hA2, hcell2⟩ := (HR2.out.below hB3).at_ 0 (by decide) (by decide); rw [show ((0 : Int)).toNat = 0 from rfl, Addr.add_zero'] at hcell2; subst hA2; have hg1 := blk_below HG1.out hB3; have hg2 := blk_below HG2.out hB3; have s1 := blk_lt hg1; have s2 := blk_lt hg2; have s3 := World.block_lt_of_cell? _ _ hcell2; have c10 : w3.cell? ⟨w1.heap.size, 0, none⟩ = some (.int .i64 0) := (blk_cell hg1 0).trans rfl; have c11 : w3.cell? ⟨w1.heap.size, 1, none⟩ = some (.int .i64 0) := (blk_cell hg1 1).trans rfl; have c20 : w3.cell? ⟨w2.heap.size, 0, none⟩ = some (.int .i64 0) := (blk_cell hg2 0).trans rfl; have c21 : w3.cell? ⟨w2.heap.size, 1, none⟩ = some (.int .i64 0) := (blk_cell hg2 1).trans rfl; clear hO3 hB3 hg1 hg2 HR3))
    | (go_at_call 12; ((with_reducible refine (HK1.out _).mono ?_); rintro e w4 ⟨rfl, hB4⟩; have HB4 := Lib.hid (below_then (below_alloc HB3.out _) (below_alloc HB3.out _).size hB4); clear hB4))
    | (go_at_call 12; ((with_reducible refine (HK2.out _).mono ?_); rintro e w5 ⟨rfl, hB5⟩; have HB5 := Lib.hid (below_then HB4.out HB4.out.size hB5); clear hB5)))
  go_ret
  exact ⟨rfl, HB5.out⟩
end Go.Proofs.Ytpbgpbblbohmgaa
namespace Go.Proofs.Ytpbgpbblbohmgaa
open Go.RowKit Go.Proofs.YtpbgpbblbohmgaaW.PrintWords

/-- A set of one byte. -/
def Single (f : Int) : Prop := f = 1 ∨ f = 3 ∨ f = 4 ∨ f = 5
theorem form_cases (s : ByteArray) : formV s = 0 ∨ Single (formV s) ∨ formV s = 2 ∨ formV s = 6 ∨ formV s = 7 ∨ formV s = 8 := by
  have h := formL_range (lowS s).toList
  unfold Single
  show formL _ = 0 ∨ (formL _ = 1 ∨ formL _ = 3 ∨ formL _ = 4 ∨ formL _ = 5) ∨ formL _ = 2 ∨ formL _ = 6 ∨ formL _ = 7 ∨ formL _ = 8
  omega
theorem writeV_single {f p : Int} (hf : Single f) : writeV f p = if byteV f p < 0 then none else some [byteV f p] := by
  unfold writeV
  rcases hf with rfl | rfl | rfl | rfl <;> simp
theorem isPt_nonneg {p : Int} (h : isPt p = true) : 0 ≤ p := ((isPt_iff p).1 h).1
theorem sgl_enc {f : Int} (hf : Single f) : ∀ ps, allPt ps → (encF f ps).2 = none → sgl f (encF f ps).1 = (ps, none)
  | [], _, _ => rfl
  | p :: t, hp, h => by
    obtain ⟨hp1, ht⟩ := allPt_cons hp
    rcases hw : writeV f p with _ | bs
    · rw [encF_none hw] at h; cases h
    · rw [encF_some hw] at h ⊢
      have hb := hw
      rw [writeV_single hf] at hb
      by_cases hv : byteV f p < 0
      · rw [if_pos hv] at hb; cases hb
      · rw [if_neg hv] at hb
        injection hb with hb
        subst hb
        have ih := sgl_enc hf t ht (by simpa [joinD] using h)
        have hpv : pointV f (byteV f p) = p := by
          rcases byteV_range f p with h | ⟨_, _, h⟩
          · rw [h] at hv; exact absurd (by decide) hv
          · exact h
        have hp0 := isPt_nonneg hp1
        show sgl f ([byteV f p] ++ (encF f t).1) = _
        rw [List.singleton_append, sgl, hpv, if_neg (by omega), ih]
        rfl
theorem encF_utf : ∀ ps, encF 2 ps = (encB ps, none)
  | [] => rfl
  | p :: t => by
    have hw : writeV 2 p = some (putB p) := by simp [writeV]
    rw [encF_some hw, encF_utf t]; rfl
def Wide (f : Int) : Prop := f = 6 ∨ f = 7 ∨ f = 8
theorem writeV_wide {f p : Int} (hf : Wide f) : writeV f p = some (if p < 65536 then put2 p (f == 8) else put2 (55296 + (p - 65536) / 1024) (f == 8) ++ put2 (56320 + (p - 65536) % 1024) (f == 8)) := by
  unfold writeV
  rw [if_neg (by rcases hf with rfl | rfl | rfl <;> decide), if_pos (show f = 6 ∨ f = 7 ∨ f = 8 from hf)]
theorem unitV_put2 (u : Int) (b : Bool) (r : List Int) (h0 : 0 ≤ u) : unitV (put2 u b ++ r) b = u := by
  cases b
  · simp [unitV, put2, rd]; omega
  · simp [unitV, put2, rd]; omega
theorem put2_drop (u : Int) (b : Bool) (r : List Int) : (put2 u b ++ r).drop 2 = r := by
  cases b <;> rfl
theorem put2_drop4 (u v : Int) (b : Bool) (r : List Int) : ((put2 u b ++ put2 v b) ++ r).drop 4 = r := by
  cases b <;> rfl
theorem put2_mid (u v : Int) (b : Bool) (r : List Int) : ((put2 u b ++ put2 v b) ++ r).drop 2 = put2 v b ++ r := by
  cases b <;> rfl
theorem dbl_enc {f : Int} (hf : Wide f) : ∀ ps, allPt ps → (encF f ps).2 = none ∧ ∀ k, (encF f ps).1.length ≤ k → dbl (f == 8) k (encF f ps).1 = (ps, none)
  | [], _ => ⟨rfl, fun k _ => by cases k <;> simp [encF, dbl]⟩
  | p :: t, hp => by
    obtain ⟨hp1, ht⟩ := allPt_cons hp
    have hb := (isPt_iff p).1 hp1
    obtain ⟨ih1, ih2⟩ := dbl_enc hf t ht
    rw [encF_some (writeV_wide hf)]
    refine ⟨by simp [joinD, ih1], fun k hk => ?_⟩
    by_cases hlt : p < 65536
    · rw [if_pos hlt] at hk ⊢
      simp only [joinD, List.length_append, put2_len] at hk
      obtain ⟨k, rfl⟩ : ∃ j, k = j + 1 := ⟨k - 1, by omega⟩
      show dbl (f == 8) (k + 1) (put2 p (f == 8) ++ (encF f t).1) = _
      rw [dbl_step, unitV_put2 _ _ _ hb.1, put2_drop, if_neg (by rw [List.length_append, put2_len]; omega), if_neg (by rw [List.length_append, put2_len]; omega), if_pos (by omega), ih2 k (by omega)]
      rfl
    · rw [if_neg hlt] at hk ⊢
      simp only [joinD, List.length_append, put2_len] at hk
      obtain ⟨k, rfl⟩ : ∃ j, k = j + 1 := ⟨k - 1, by omega⟩
      show dbl (f == 8) (k + 1) ((put2 (55296 + (p - 65536) / 1024) (f == 8) ++ put2 (56320 + (p - 65536) % 1024) (f == 8)) ++ (encF f t).1) = _
      have hu : unitV ((put2 (55296 + (p - 65536) / 1024) (f == 8) ++ put2 (56320 + (p - 65536) % 1024) (f == 8)) ++ (encF f t).1) (f == 8) = 55296 + (p - 65536) / 1024 := by
        rw [List.append_assoc]; exact unitV_put2 _ _ _ (by omega)
      rw [dbl_step, hu, put2_mid, put2_drop4, unitV_put2 _ _ _ (by omega), if_neg (by simp only [List.length_append, put2_len]; omega), if_neg (by simp only [List.length_append, put2_len]; omega), if_neg (by omega),
        if_neg (by simp only [List.length_append, put2_len]; omega), if_neg (by omega), ih2 k (by omega)]
      simp only [joinD, List.singleton_append, Option.map_none]
      congr 1
      congr 1
      omega
theorem resV_none (ps : List Int) : resV (ps, none) = (ps, 0, 0) := rfl
/-- What is encoded is read as the points that it was. -/
theorem points_enc {f : Int} (hf : Single f ∨ f = 2 ∨ Wide f) (ps : List Int) (hp : allPt ps) (h : (encF f ps).2 = none) : pointsV f (bomV f ++ (encF f ps).1) = (ps, 0, 0) := by
  rcases hf with hf | rfl | hf
  · have hs := sgl_enc hf ps hp h
    have e : bomV f = [] := by rcases hf with rfl | rfl | rfl | rfl <;> rfl
    rw [e, List.nil_append]
    unfold pointsV
    rw [hs]
    rcases hf with rfl | rfl | rfl | rfl <;> rfl
  · have e : bomV 2 = [] := rfl
    rw [e, List.nil_append, encF_utf]
    exact pts_enc ps hp
  · obtain ⟨_, h2⟩ := dbl_enc hf ps hp
    rcases hf with rfl | rfl | rfl
    · have e : bomV 6 = [254, 255] := rfl
      unfold pointsV
      rw [if_neg (by decide), if_pos rfl, e]
      have hu : unitV ([254, 255] ++ (encF 6 ps).1) false = 65279 := rfl
      unfold markV
      rw [if_pos ⟨by simp, hu⟩, resV_join]
      show shiftR (resV (dbl ((6 : Int) == 8) (encF 6 ps).1.length (encF 6 ps).1)) 2 = _
      rw [h2 _ (Nat.le_refl _)]
      rfl
    · have e : bomV 7 = [] := rfl
      rw [e, List.nil_append]
      show resV (dbl ((7 : Int) == 8) (encF 7 ps).1.length (encF 7 ps).1) = _
      rw [h2 _ (Nat.le_refl _)]; rfl
    · have e : bomV 8 = [] := rfl
      rw [e, List.nil_append]
      show resV (dbl ((8 : Int) == 8) (encF 8 ps).1.length (encF 8 ps).1) = _
      rw [h2 _ (Nat.le_refl _)]; rfl
theorem form_set {s : ByteArray} (h : formV s ≠ 0) : Single (formV s) ∨ formV s = 2 ∨ Wide (formV s) := by
  rcases form_cases s with h1 | h1 | h1 | h1 | h1 | h1
  · exact absurd h1 h
  · exact .inl h1
  · exact .inr (.inl h1)
  · exact .inr (.inr (.inl h1))
  · exact .inr (.inr (.inr (.inl h1)))
  · exact .inr (.inr (.inr (.inr h1)))
theorem pts_cases (l : List Int) (hby : Bytes l) : (∃ ps, allPt ps ∧ l = encB ps ∧ ptsV l = (ps, 0, 0)) ∨ (ptsV l).2.2 = 20 := by
  have h := ptsV_code l
  cases hv : vldV l with
  | true => exact .inl (ptsV_valid l hby hv)
  | false => rw [hv] at h; exact .inr h
theorem txtV_enc (ps : List Int) (h : allPt ps) : txtV ps = (encB ps, 0, 0) := by
  unfold txtV; rw [txt_enc ps h]
/-- What Encode tells: of points, or why not. -/
theorem encode_cases (s : ByteArray) (l : List Int) (hby : Bytes l) :
    (∃ ps, allPt ps ∧ l = encB ps ∧ formV s ≠ 0 ∧ (encF (formV s) ps).2 = none ∧ encodeV s l = (bomV (formV s) ++ (encF (formV s) ps).1, 0, 0)) ∨
    ((encodeV s l).1 = [] ∧ (encodeV s l).2.2 ≠ 0 ∧ (formV s ≠ 0 ∨ (encodeV s l).2.2 = 143)) := by
  by_cases hf : formV s = 0
  · right; rw [encodeV, if_pos hf]; exact ⟨rfl, by decide, .inr rfl⟩
  · rcases pts_cases l hby with ⟨ps, hp, hl, hv⟩ | h
    · rcases he : (encF (formV s) ps).2 with _ | n
      · left
        refine ⟨ps, hp, hl, hf, he, ?_⟩
        rw [encodeV, if_neg hf, hv, if_pos rfl]
        unfold resE; rw [he]
      · right
        rw [encodeV, if_neg hf, hv, if_pos rfl]
        unfold resE; rw [he]
        exact ⟨rfl, by show (10 : Int) ≠ 0; decide, .inl hf⟩
    · right
      rw [encodeV, if_neg hf, h, if_neg (by decide)]
      exact ⟨rfl, by show (20 : Int) ≠ 0; decide, .inl hf⟩
theorem decode_enc {s : ByteArray} {ps : List Int} (hp : allPt ps) (hf : formV s ≠ 0) (he : (encF (formV s) ps).2 = none) : decodeV s (bomV (formV s) ++ (encF (formV s) ps).1) = (encB ps, 0, 0) := by
  rw [decodeV, if_neg hf, points_enc (form_set hf) ps hp he, if_pos rfl]
  exact txtV_enc ps hp
/-- The law CharsetBack, in plain terms. -/
theorem back_plain (s : ByteArray) (l : List Int) (hby : Bytes l) (h : (encodeV s l).2.2 = 0) : decodeV s (encodeV s l).1 = (l, 0, 0) := by
  rcases encode_cases s l hby with ⟨ps, hp, hl, hf, he, hv⟩ | ⟨_, h2, _⟩
  · rw [hv, hl]; exact decode_enc hp hf he
  · exact absurd h h2
theorem back_bad (s : ByteArray) (l : List Int) (hby : Bytes l) (h : (encodeV s l).2.2 ≠ 0) : (encodeV s l).1 = [] ∧ (knownV s = true ∨ (encodeV s l).2.2 = 143) := by
  rcases encode_cases s l hby with ⟨ps, _, _, _, _, hv⟩ | ⟨h1, _, h3⟩
  · rw [hv] at h; exact absurd rfl h
  · exact ⟨h1, h3.imp (fun h => by unfold knownV; simpa using h) id⟩
theorem put2_bytes (u : Int) (b : Bool) (h0 : 0 ≤ u) (h1 : u ≤ 65535) : Bytes (put2 u b) := by
  intro x hx
  unfold put2 at hx
  split at hx <;> simp at hx <;> omega
theorem writeV_bytes {f p : Int} {bs : List Int} (hp : isPt p = true) (h : writeV f p = some bs) : Bytes bs := by
  have hb := (isPt_iff p).1 hp
  unfold writeV at h
  by_cases h2 : f = 2
  · rw [if_pos h2] at h; injection h with h; subst h; exact putB_bytes p
  · rw [if_neg h2] at h
    by_cases h6 : f = 6 ∨ f = 7 ∨ f = 8
    · rw [if_pos h6] at h; injection h with h; subst h
      by_cases hlt : p < 65536
      · rw [if_pos hlt]; exact put2_bytes _ _ hb.1 (by omega)
      · rw [if_neg hlt]; exact (put2_bytes _ _ (by omega) (by omega)).append (put2_bytes _ _ (by omega) (by omega))
    · rw [if_neg h6] at h
      by_cases hv : byteV f p < 0
      · rw [if_pos hv] at h; cases h
      · rw [if_neg hv] at h; injection h with h; subst h
        intro x hx
        rw [List.mem_singleton] at hx
        subst hx
        rcases byteV_range f p with h | h
        · rw [h] at hv; exact absurd (by decide) hv
        · omega
theorem encF_bytes (f : Int) : ∀ ps, allPt ps → Bytes (encF f ps).1
  | [], _ => fun x hx => by cases hx
  | p :: t, hp => by
    obtain ⟨hp1, ht⟩ := allPt_cons hp
    rcases hw : writeV f p with _ | bs
    · rw [encF_none hw]; exact fun x hx => by cases hx
    · rw [encF_some hw]; exact (writeV_bytes hp1 hw).append (encF_bytes f t ht)
theorem bomV_bytes (f : Int) : Bytes (bomV f) := by
  intro x hx
  unfold bomV at hx
  split at hx <;> simp at hx
  omega
theorem encodeV_bytes (s : ByteArray) (l : List Int) (hby : Bytes l) : Bytes (encodeV s l).1 := by
  rcases encode_cases s l hby with ⟨ps, hp, _, _, _, hv⟩ | ⟨h, _, _⟩
  · rw [hv]; exact (bomV_bytes _).append (encF_bytes _ ps hp)
  · rw [h]; exact fun x hx => by cases hx
theorem encodeV_len (s : ByteArray) (l : List Int) (hby : Bytes l) : (encodeV s l).1.length ≤ 4 * l.length + 2 := by
  rcases encode_cases s l hby with ⟨ps, hp, hle, _, _, hv⟩ | ⟨h, _, _⟩
  · rw [hv]
    have h3 := encF_len (formV s) ps
    have h4 : (bomV (formV s)).length ≤ 2 := by unfold bomV; split <;> simp
    have h5 : ps.length ≤ l.length := by
      have h := dec_len l.length l
      have e : (ptsV l).1.length ≤ l.length := by rw [ptsV_res]; exact resV_len h
      rw [hle, pts_enc ps hp] at e
      rw [hle]; exact e
    simp only [List.length_append]; omega
  · rw [h]; simp
end Go.Proofs.Ytpbgpbblbohmgaa
namespace Go.Proofs.Ytpbgpbblbohmgaa
open Go.RowKit Go.Proofs.YtpbgpbblbohmgaaW.PrintWords

theorem wf_u8 {l : List Int} (h : ∀ n ∈ l, (Lit.int .u8 n).wf = true) : Bytes l := by
  intro x hx
  have h2 := h x hx
  simp only [Lit.wf, Bool.and_eq_true, decide_eq_true_eq] at h2
  exact ⟨h2.1, h2.2⟩
theorem alive_keep (w : World) (g : Nat) (cs : Array Value) (t : TypeId) (hb : w.heap[g]? = some (.cells cs t (0, 0))) :
    Calls Try.prog 9 #[] w fun e w' => e = .returned (.bool true) ∧ Below w.heap.size w w' ∧ w'.heap[g]? = some (.cells cs t (0, 0)) :=
  (alive_any w).mono fun _ _ ⟨h, hB⟩ => ⟨h, hB, blk_below hb hB⟩
set_option maxRecDepth 100000 in
set_option maxHeartbeats 1000000 in
theorem back_early (s : ByteArray) (A : Option Addr) (n c : Nat) (w : World) (hs : s.size ≤ 140737488351232) (hn : n ≤ 9223372036854775807) (h : 100 < s.size ∨ (s.size ≤ 100 ∧ 1000 < n)) :
    Calls Try.prog 4 #[.string s, .slice A n c] w fun e w' => e = .returned (.bool true) ∧ Below w.heap.size w w' := by
  rcases h with h | ⟨h, h2⟩
  all_goals
    go_enter Try.func4, Try.ntmps4
    go_wp2_with (first | (go_at_call 9; ((with_reducible refine (alive_any _).mono ?_); rintro e w1 ⟨rfl, hB1⟩; have HB1 := Lib.hid hB1; clear hB1)))
    go_ret
    exact ⟨rfl, HB1.out⟩
set_option maxRecDepth 100000 in
set_option maxHeartbeats 4000000 in
theorem back_law (s : ByteArray) (A : Option Addr) (l : List Int) (c : Nat) (w : World) (hs : s.size ≤ 140737488351232) (hr : ReadsInt w .u8 A l.length l) (wl : ∀ n ∈ l, (Lit.int .u8 n).wf = true) (hc : l.length ≤ c) (_ : l.length * 1 ≤ 140737488351232) :
    Calls Try.prog 4 #[.string s, .slice A l.length c] w fun e w' => e = .returned (.bool true) ∧ Below w.heap.size w w' := by
  by_cases h1 : 100 < s.size
  · exact back_early s A l.length c w hs hr.2.1 (.inl h1)
  by_cases h2 : 1000 < l.length
  · exact back_early s A l.length c w hs hr.2.1 (.inr ⟨by omega, h2⟩)
  have hby := wf_u8 wl
  have h1' : s.size ≤ 100 := by omega
  have h2' : l.length ≤ 1000 := by omega
  have HE := Lib.hid (encode_any s A l c w hr hby hc (by omega) (by omega))
  have HR := Lib.hid hr
  have hl1 : (encodeV s l).1.length ≤ 1048576 := by have := encodeV_len s l hby; omega
  have hbb := encodeV_bytes s l hby
  clear h1 h2 wl hr
  by_cases hcd : (encodeV s l).2.2 = 0
  · have hD := back_plain s l hby hcd
    have HBY := Lib.hid hby
    rcases hv : encodeV s l with ⟨b, at_, cd⟩
    rw [hv] at hD HE hcd hl1 hbb
    simp only at hcd hD hl1 hbb
    subst hcd
    have HD := Lib.hid (fun W A1 c1 h hc => decode_at s A1 b b.length c1 _ W h hbb hc (by omega) hl1 hD)
    clear hv hD hbb hl1 hby
    go_enter Try.func4, Try.ntmps4
    go_wp2_with (first
      | (go_at_call 14; ((with_reducible refine HE.out.mono ?_); rintro e w1 ⟨v, rfl, hO, hB⟩; obtain ⟨A1, c1, rfl, hc1, hR1⟩ := (hO.alloc (.cells #[.int .i64 at_, .int .i64 0] 26)).reads; have HR1 : Hid (ReadsInt (w1.alloc (.cells #[.int .i64 at_, .int .i64 0] 26)) .u8 A1 b.length b) := Lib.hid hR1; have HC1 : Hid (b.length ≤ c1) := Lib.hid hc1; have HB1 := Lib.hid (below_alloc hB (.cells #[.int .i64 at_, .int .i64 0] 26)); clear hO hB hR1 hc1))
      | (go_at_call 10; ((with_reducible refine (HD.out _ _ _ HR1.out HC1.out).mono ?_); rintro e w2 ⟨v2, rfl, hO2, hB2⟩; obtain ⟨A2, c2, rfl, hc2, hR2⟩ := (hO2.alloc (.cells #[.int .i64 0, .int .i64 0] 26)).reads; have HR2 : Hid (ReadsInt (w2.alloc (.cells #[.int .i64 0, .int .i64 0] 26)) .u8 A2 l.length l) := Lib.hid hR2; have HB2 := Lib.hid (below_alloc (below_then HB1.out HB1.out.size hB2) (.cells #[.int .i64 0, .int .i64 0] 26)); clear hO2 hB2 hR2 hc2))
      | (go_at_call 9; ((with_reducible refine (alive_keep _ _ _ _ (heap_alloc_new w2 (.cells #[.int .i64 0, .int .i64 0] 26))).mono ?_); rintro e w3 ⟨rfl, hB3, hb3⟩; have kc1 := string_of_reads (P := Try.prog) (c := c2) Try.underlying22 Try.underlying5 Try.underlying9 (HR2.out.below hB3); have kc2 := string_of_reads (P := Try.prog) (c := c) Try.underlying22 Try.underlying5 Try.underlying9 ((HR.out.below HB2.out).below hB3); have c0 : w3.cell? ⟨w2.heap.size, 0, none⟩ = some (.int .i64 0) := (blk_cell hb3 0).trans rfl; have c1 : w3.cell? ⟨w2.heap.size, 1, none⟩ = some (.int .i64 0) := (blk_cell hb3 1).trans rfl; have HB3 := Lib.hid (below_then HB2.out HB2.out.size hB3); clear hB3 hb3)))
    go_ret
    exact ⟨rfl, HB3.out⟩
  · obtain ⟨hb0, hkn⟩ := back_bad s l hby hcd
    rcases hv : encodeV s l with ⟨b, at_, cd⟩
    rw [hv] at hb0 hkn hcd HE
    simp only at hb0 hkn hcd
    subst hb0
    have b0 : (cd != 0) = true := bne_iff_ne.mpr hcd
    have hkk : (knownV s = true) ∨ (knownV s = false ∧ cd = 143) := by
      cases h : knownV s with
      | true => exact .inl rfl
      | false => rcases hkn with h2 | h2
                 · rw [h] at h2; cases h2
                 · exact .inr ⟨rfl, h2⟩
    have HK := Lib.hid (fun W => known_any s W (by omega))
    clear hv hbb hl1 hby hcd hkn
    rcases hkk with hk | ⟨hk, h143⟩
    · rw [hk] at HK
      clear hk
      go_enter Try.func4, Try.ntmps4
      go_wp2_with (first
        | (go_at_call 14; ((with_reducible refine HE.out.mono ?_); rintro e w1 ⟨v, rfl, hO, hB⟩; obtain ⟨A1, c1, rfl, hc1, hR1⟩ := hO.reads; have HB1 := Lib.hid (below_alloc hB (.cells #[.int .i64 at_, .int .i64 cd] 26)); clear hO hB hR1 hc1))
        | (go_at_call 9; ((with_reducible refine (alive_any _).mono ?_); rintro e w3 ⟨rfl, hB3⟩; have HB3 := Lib.hid (below_then HB1.out HB1.out.size hB3); clear hB3))
        | (go_at_call 12; ((with_reducible refine (HK.out _).mono ?_); rintro e w4 ⟨rfl, hB4⟩; have HB4 := Lib.hid (below_then HB3.out HB3.out.size hB4); clear hB4)))
      go_ret
      exact ⟨rfl, HB4.out⟩
    · subst h143
      rw [hk] at HK
      clear hk
      go_enter Try.func4, Try.ntmps4
      go_wp2_with (first
        | (go_at_call 14; ((with_reducible refine HE.out.mono ?_); rintro e w1 ⟨v, rfl, hO, hB⟩; obtain ⟨A1, c1, rfl, hc1, hR1⟩ := hO.reads; have HG1 := Lib.hid (heap_alloc_new w1 (.cells #[.int .i64 at_, .int .i64 143] 26)); have HB1 := Lib.hid (below_alloc hB (.cells #[.int .i64 at_, .int .i64 143] 26)); clear hO hB hR1 hc1))
        | (go_at_call 9; ((with_reducible refine (alive_any _).mono ?_); rintro e w3 ⟨rfl, hB3⟩; have HG3 := Lib.hid (blk_below HG1.out hB3); have HB3 := Lib.hid (below_then HB1.out HB1.out.size hB3); clear hB3))
        | (go_at_call 12; ((with_reducible refine (HK.out _).mono ?_); rintro e w4 ⟨rfl, hB4⟩; have hg4 := blk_below HG3.out hB4; have c1 : w4.cell? ⟨w1.heap.size, 1, none⟩ = some (.int .i64 143) := (blk_cell hg4 1).trans rfl; have HB4 := Lib.hid (below_then HB3.out HB3.out.size hB4); clear hB4 hg4)))
      go_ret
      exact ⟨rfl, HB4.out⟩
end Go.Proofs.Ytpbgpbblbohmgaa
namespace Go.Proofs.Ytpbgpbblbohmgaa
open Go.RowKit Go.Proofs.YtpbgpbblbohmgaaW.PrintWords

def chk (f : Int) : Bool := (List.range 256).all fun c => decide (pointV f (c : Int) < 0) || (byteV f (pointV f (c : Int)) == (c : Int) && isPt (pointV f (c : Int)))
theorem chk1 : chk 1 = true := by decide +kernel
theorem chk3 : chk 3 = true := by decide +kernel
theorem chk4 : chk 4 = true := by decide +kernel
theorem chk5 : chk 5 = true := by decide +kernel
theorem chk_single {f : Int} (hf : Single f) : chk f = true := by
  rcases hf with rfl | rfl | rfl | rfl
  · exact chk1
  · exact chk3
  · exact chk4
  · exact chk5
theorem point_back {f c : Int} (hf : Single f) (h0 : 0 ≤ c) (h1 : c ≤ 255) (hp : ¬ pointV f c < 0) : byteV f (pointV f c) = c ∧ isPt (pointV f c) = true := by
  have h := List.all_eq_true.1 (chk_single hf) c.toNat (List.mem_range.2 (by omega))
  have e : ((c.toNat : Nat) : Int) = c := by omega
  rw [e] at h
  simp only [Bool.or_eq_true, decide_eq_true_eq, Bool.and_eq_true, beq_iff_eq] at h
  rcases h with h | h
  · exact absurd h hp
  · exact h
theorem sgl_dec {f : Int} (hf : Single f) : ∀ l, Bytes l → (sgl f l).2 = none → allPt (sgl f l).1 ∧ encF f (sgl f l).1 = (l, none)
  | [], _, _ => ⟨fun x hx => (List.not_mem_nil hx).elim, rfl⟩
  | c :: t, hby, h => by
    have hc := hby c List.mem_cons_self
    have ht : Bytes t := fun x hx => hby x (List.mem_cons_of_mem _ hx)
    rw [sgl] at h ⊢
    by_cases hp : pointV f c < 0
    · rw [if_pos hp] at h; cases h
    · rw [if_neg hp] at h ⊢
      obtain ⟨ih1, ih2⟩ := sgl_dec hf t ht (by simpa using h)
      obtain ⟨h1, h2⟩ := point_back hf hc.1 hc.2 hp
      refine ⟨fun x hx => ?_, ?_⟩
      · rcases List.mem_cons.1 hx with rfl | hx
        · exact h2
        · exact ih1 x hx
      · have hw : writeV f (pointV f c) = some [c] := by rw [writeV_single hf, h1, if_neg (by omega)]
        show encF f (pointV f c :: (sgl f t).1) = _
        rw [encF_some hw, ih2]; rfl
theorem take2 {l : List Int} (h : 2 ≤ l.length) : l = [rd l 0, rd l 1] ++ l.drop 2 := by
  rcases l with _ | ⟨a, _ | ⟨b, t⟩⟩
  · simp at h
  · simp at h
  · rfl
theorem put2_unit {l : List Int} (hby : Bytes l) (b : Bool) (h : 2 ≤ l.length) : put2 (unitV l b) b ++ l.drop 2 = l := by
  have h0 := hby.rd 0
  have h1 := hby.rd 1
  simp only [Int.natCast_zero, Int.natCast_one] at h0 h1
  conv => rhs; rw [take2 h]
  congr 1
  cases b
  · show [(rd l 0 * 256 + rd l 1) / 256, (rd l 0 * 256 + rd l 1) % 256] = _
    rw [show (rd l 0 * 256 + rd l 1) / 256 = rd l 0 by omega, show (rd l 0 * 256 + rd l 1) % 256 = rd l 1 by omega]
  · show [(rd l 1 * 256 + rd l 0) % 256, (rd l 1 * 256 + rd l 0) / 256] = _
    rw [show (rd l 1 * 256 + rd l 0) / 256 = rd l 1 by omega, show (rd l 1 * 256 + rd l 0) % 256 = rd l 0 by omega]
theorem dbl_dec {f : Int} (hf : Wide f) : ∀ k l, Bytes l → l.length ≤ k → (dbl (f == 8) k l).2 = none → allPt (dbl (f == 8) k l).1 ∧ encF f (dbl (f == 8) k l).1 = (l, none)
  | 0, l, _, hk, _ => by
    obtain rfl : l = [] := List.eq_nil_of_length_eq_zero (by omega)
    exact ⟨fun x hx => (List.not_mem_nil hx).elim, rfl⟩
  | k + 1, l, hby, hk, h => by
    have hu := unitV_range hby (f == 8)
    rw [dbl_step] at h ⊢
    by_cases c0 : l.length = 0
    · obtain rfl : l = [] := List.eq_nil_of_length_eq_zero c0
      exact ⟨fun x hx => by simp at hx, by simp [encF]⟩
    · rw [if_neg c0] at h ⊢
      by_cases c1 : l.length < 2
      · rw [if_pos c1] at h; cases h
      · rw [if_neg c1] at h ⊢
        by_cases c2 : unitV l (f == 8) < 55296 ∨ 57343 < unitV l (f == 8)
        · rw [if_pos c2] at h ⊢
          obtain ⟨ih1, ih2⟩ := dbl_dec hf k (l.drop 2) (hby.drop 2) (by rw [List.length_drop]; omega) (by simpa [joinD] using h)
          refine ⟨fun x hx => ?_, ?_⟩
          · rcases List.mem_append.1 hx with hx | hx
            · rw [List.mem_singleton] at hx; subst hx
              exact (isPt_iff _).2 ⟨hu.1, by omega, c2⟩
            · exact ih1 x hx
          · have hw : writeV f (unitV l (f == 8)) = some (put2 (unitV l (f == 8)) (f == 8)) := by rw [writeV_wide hf, if_pos (by omega)]
            show encF f (unitV l (f == 8) :: (dbl (f == 8) k (l.drop 2)).1) = _
            rw [encF_some hw, ih2]
            show (put2 (unitV l (f == 8)) (f == 8) ++ l.drop 2, _) = _
            rw [put2_unit hby _ (by omega)]; rfl
        · rw [if_neg c2] at h ⊢
          by_cases c3 : 56320 ≤ unitV l (f == 8) ∨ l.length < 4
          · rw [if_pos c3] at h; cases h
          · rw [if_neg c3] at h ⊢
            have hv := unitV_range (hby.drop 2) (f == 8)
            by_cases c4 : unitV (l.drop 2) (f == 8) < 56320 ∨ 57343 < unitV (l.drop 2) (f == 8)
            · rw [if_pos c4] at h; cases h
            · rw [if_neg c4] at h ⊢
              obtain ⟨ih1, ih2⟩ := dbl_dec hf k (l.drop 4) (hby.drop 4) (by rw [List.length_drop]; omega) (by simpa [joinD] using h)
              have e1 := put2_unit hby (f == 8) (by omega)
              have e2 := put2_unit (hby.drop 2) (f == 8) (by rw [List.length_drop]; omega)
              rw [List.drop_drop] at e2
              generalize unitV l (f == 8) = u at *
              generalize unitV (l.drop 2) (f == 8) = v at *
              refine ⟨fun x hx => ?_, ?_⟩
              · rcases List.mem_append.1 hx with hx | hx
                · rw [List.mem_singleton] at hx; subst hx
                  exact (isPt_iff _).2 ⟨by omega, by omega, .inr (by omega)⟩
                · exact ih1 x hx
              · have hw : writeV f (65536 + (u - 55296) * 1024 + (v - 56320)) = some (put2 u (f == 8) ++ put2 v (f == 8)) := by
                  rw [writeV_wide hf, if_neg (by omega)]
                  rw [show 55296 + (65536 + (u - 55296) * 1024 + (v - 56320) - 65536) / 1024 = u by omega, show 56320 + (65536 + (u - 55296) * 1024 + (v - 56320) - 65536) % 1024 = v by omega]
                show encF f ((65536 + (u - 55296) * 1024 + (v - 56320)) :: (dbl (f == 8) k (l.drop 4)).1) = _
                rw [encF_some hw, ih2]
                show ((put2 u (f == 8) ++ put2 v (f == 8)) ++ l.drop 4, _) = _
                rw [List.append_assoc, e2, e1]; rfl
theorem resV_ok {d : List Int × Option Nat} (h : (resV d).2.2 = 0) : d.2 = none ∧ resV d = (d.1, 0, 0) := by
  rcases d with ⟨xs, _ | n⟩
  · exact ⟨rfl, rfl⟩
  · simp [resV] at h
theorem shiftR_ok {r : List Int × Int × Int} {m : Int} (h : (shiftR r m).2.2 = 0) : r.2.2 = 0 := by
  unfold shiftR at h
  split at h
  · assumption
  · exact h
/-- What is read can be written, and is (but in utf-16) the bytes that were read. -/
theorem points_dec {f : Int} (hf : Single f ∨ f = 2 ∨ Wide f) (l : List Int) (hby : Bytes l) (h : (pointsV f l).2.2 = 0) :
    ∃ ps, pointsV f l = (ps, 0, 0) ∧ allPt ps ∧ (encF f ps).2 = none ∧ (f ≠ 6 → bomV f ++ (encF f ps).1 = l) := by
  rcases hf with hf | rfl | hf
  · have e : pointsV f l = resV (sgl f l) := by
      unfold pointsV
      rcases hf with rfl | rfl | rfl | rfl <;> rfl
    have e2 : bomV f = [] := by rcases hf with rfl | rfl | rfl | rfl <;> rfl
    rw [e] at h ⊢
    obtain ⟨h1, h2⟩ := resV_ok h
    obtain ⟨h3, h4⟩ := sgl_dec hf l hby h1
    exact ⟨_, h2, h3, by rw [h4], fun _ => by rw [h4, e2]; rfl⟩
  · rcases pts_cases l hby with ⟨ps, hp, hl, hv⟩ | h2
    · refine ⟨ps, hv, hp, by rw [encF_utf], fun _ => ?_⟩
      rw [encF_utf, hl]; rfl
    · have e : pointsV 2 l = ptsV l := rfl
      rw [e, h2] at h; exact absurd h (by decide)
  · rcases hf with rfl | rfl | rfl
    · have e : pointsV 6 l = resV (markV l) := rfl
      rw [e] at h ⊢
      obtain ⟨h1, h2⟩ := resV_ok h
      refine ⟨_, h2, ?_, ?_, fun h => absurd rfl h⟩
      all_goals
        have hall : allPt (markV l).1 := by
          unfold markV at h1 ⊢
          split
          · rename_i hc
            rw [if_pos hc] at h1
            exact (dbl_dec (f := 6) (.inl rfl) _ _ (hby.drop 2) (Nat.le_refl _) (by simpa [joinD] using h1)).1
          · rename_i hc
            rw [if_neg hc] at h1
            split
            · rename_i hc2
              rw [if_pos hc2] at h1
              exact (dbl_dec (f := 8) (.inr (.inr rfl)) _ _ (hby.drop 2) (Nat.le_refl _) (by simpa [joinD] using h1)).1
            · rename_i hc2
              rw [if_neg hc2] at h1
              exact (dbl_dec (f := 6) (.inl rfl) _ _ hby (Nat.le_refl _) h1).1
      · exact hall
      · exact (dbl_enc (f := 6) (.inl rfl) _ hall).1
    · have e : pointsV 7 l = resV (dbl ((7 : Int) == 8) l.length l) := rfl
      rw [e] at h ⊢
      obtain ⟨h1, h2⟩ := resV_ok h
      obtain ⟨h3, h4⟩ := dbl_dec (f := 7) (.inr (.inl rfl)) _ _ hby (Nat.le_refl _) h1
      exact ⟨_, h2, h3, by rw [h4], fun _ => by rw [h4]; rfl⟩
    · have e : pointsV 8 l = resV (dbl ((8 : Int) == 8) l.length l) := rfl
      rw [e] at h ⊢
      obtain ⟨h1, h2⟩ := resV_ok h
      obtain ⟨h3, h4⟩ := dbl_dec (f := 8) (.inr (.inr rfl)) _ _ hby (Nat.le_refl _) h1
      exact ⟨_, h2, h3, by rw [h4], fun _ => by rw [h4]; rfl⟩
theorem dec_at : ∀ (f : Nat) (l : List Int) (n : Nat), (dec f l).2 = some n → n ≤ l.length
  | 0, l, n, h => by simp [dec] at h
  | f + 1, l, n, h => by
    rw [dec] at h
    have hn := nextV_len l
    split at h
    · cases h
    · split at h
      · simp only [Option.map_eq_some_iff] at h
        obtain ⟨m, hm, rfl⟩ := h
        have := dec_at f _ _ hm
        rw [List.length_drop] at this
        omega
      · injection h with h; omega
theorem sgl_at (f : Int) : ∀ (l : List Int) (n : Nat), (sgl f l).2 = some n → n ≤ l.length
  | [], n, h => by simp [sgl] at h
  | c :: t, n, h => by
    rw [sgl] at h
    split at h
    · injection h with h; simp only [List.length_cons]; omega
    · simp only [Option.map_eq_some_iff] at h
      obtain ⟨m, hm, rfl⟩ := h
      have := sgl_at f t m hm
      simp only [List.length_cons]; omega
theorem markV_at (l : List Int) (n : Nat) (h : (markV l).2 = some n) : n ≤ l.length := by
  unfold markV at h
  split at h
  · simp only [joinD, Option.map_eq_some_iff] at h
    obtain ⟨m, hm, rfl⟩ := h
    have := dbl_at _ _ _ _ hm
    rw [List.length_drop] at this
    omega
  · split at h
    · simp only [joinD, Option.map_eq_some_iff] at h
      obtain ⟨m, hm, rfl⟩ := h
      have := dbl_at _ _ _ _ hm
      rw [List.length_drop] at this
      omega
    · exact dbl_at _ _ _ _ h
theorem pointsV_at (f : Int) (l : List Int) : 0 ≤ (pointsV f l).2.1 ∧ (pointsV f l).2.1 ≤ l.length := by
  unfold pointsV
  repeat' split
  · exact resV_at (dec_at _ _)
  · exact resV_at (markV_at _)
  · exact resV_at (dbl_at _ _ _)
  · exact resV_at (dbl_at _ _ _)
  · exact resV_at (sgl_at _ _)
/-- What Decode tells. -/
theorem decode_cases (s : ByteArray) (l : List Int) (hby : Bytes l) :
    (∃ ps, allPt ps ∧ formV s ≠ 0 ∧ (encF (formV s) ps).2 = none ∧ (formV s ≠ 6 → bomV (formV s) ++ (encF (formV s) ps).1 = l) ∧ decodeV s l = (encB ps, 0, 0) ∧ ps.length ≤ l.length) ∨
    ((decodeV s l).1 = [] ∧ (decodeV s l).2.2 ≠ 0 ∧ 0 ≤ (decodeV s l).2.1 ∧ (decodeV s l).2.1 ≤ l.length) := by
  by_cases hf : formV s = 0
  · right; rw [decodeV, if_pos hf]; exact ⟨rfl, by show (143 : Int) ≠ 0; decide, Int.le_refl _, by show (0 : Int) ≤ _; omega⟩
  · by_cases hc : (pointsV (formV s) l).2.2 = 0
    · obtain ⟨ps, h1, h2, h3, h4⟩ := points_dec (form_set hf) l hby hc
      left
      refine ⟨ps, h2, hf, h3, h4, ?_, ?_⟩
      · rw [decodeV, if_neg hf, h1, if_pos rfl]; exact txtV_enc ps h2
      · have h5 := pointsV_len (formV s) l
        rw [h1] at h5; exact h5
    · right
      have h := pointsV_at (formV s) l
      rw [decodeV, if_neg hf, if_neg hc]
      exact ⟨rfl, hc, h.1, h.2⟩
theorem encode_of {s : ByteArray} {ps : List Int} (hp : allPt ps) (hf : formV s ≠ 0) (he : (encF (formV s) ps).2 = none) : encodeV s (encB ps) = (bomV (formV s) ++ (encF (formV s) ps).1, 0, 0) := by
  rw [encodeV, if_neg hf, pts_enc ps hp, if_pos rfl]
  unfold resE; rw [he]
theorem encB_length : ∀ ps : List Int, (encB ps).length ≤ 4 * ps.length
  | [] => by simp [encB]
  | p :: t => by
    have ih := encB_length t
    have := putB_len p
    show (putB p ++ encB t).length ≤ _
    rw [List.length_append, List.length_cons]; omega
/-- The law CharsetBytes, in plain terms. -/
theorem bytes_plain (s : ByteArray) (l : List Int) (hby : Bytes l) (h : (decodeV s l).2.2 = 0) :
    ∃ x y, decodeV s l = (x, 0, 0) ∧ encodeV s x = (y, 0, 0) ∧ decodeV s y = (x, 0, 0) ∧ vldV x = true ∧ Bytes x ∧ Bytes y ∧ x.length ≤ 4 * l.length ∧ y.length ≤ 16 * l.length + 2 ∧ (formV s ≠ 6 → y = l) := by
  rcases decode_cases s l hby with ⟨ps, hp, hf, he, h4, hv, hl⟩ | ⟨_, h2, _⟩
  · have hx := encB_length ps
    have hb := encB_bytes ps
    have hy := encode_of hp hf he
    have hyl := encodeV_len s (encB ps) hb
    have hyb := encodeV_bytes s (encB ps) hb
    rw [hy] at hyl hyb
    exact ⟨encB ps, _, hv, hy, decode_enc hp hf he, (vld_iff _ hb).2 ⟨ps, hp, rfl⟩, hb, hyb, by omega, by simp only at hyl; omega, h4⟩
  · exact absurd h h2
/-- Bytes below 128. -/
def Asc (l : List Int) : Prop := ∀ x ∈ l, 0 ≤ x ∧ x < 128
theorem point_asc {f c : Int} (hf : Single f) (h : 0 ≤ c ∧ c < 128) : pointV f c = c := by
  rcases hf with rfl | rfl | rfl | rfl
  · unfold pointV; rw [if_neg (by decide), if_neg (by decide), if_neg (by omega)]
  · rfl
  · show euroV c = c
    unfold euroV
    repeat' (rw [if_neg (by omega)])
  · show upV c = c
    unfold upV
    rw [if_pos (by omega)]
theorem isPt_asc {c : Int} (h : 0 ≤ c ∧ c < 128) : isPt c = true := (isPt_iff _).2 ⟨h.1, by omega, .inl (by omega)⟩
theorem allPt_asc {l : List Int} (h : Asc l) : allPt l := fun x hx => isPt_asc (h x hx)
theorem encB_asc : ∀ l, Asc l → encB l = l
  | [], _ => rfl
  | c :: t, h => by
    have hc := h c List.mem_cons_self
    show putB c ++ encB t = _
    rw [encB_asc t (fun x hx => h x (List.mem_cons_of_mem _ hx)), putB_one (isPt_asc hc) hc.2]; rfl
theorem encF_asc {f : Int} (hf : Single f ∨ f = 2) : ∀ l, Asc l → encF f l = (l, none) := by
  rcases hf with hf | rfl
  · intro l
    induction l with
    | nil => intro _; rfl
    | cons c t ih =>
      intro h
      have hc := h c List.mem_cons_self
      have hb := point_back hf hc.1 (by omega) (by rw [point_asc hf hc]; omega)
      rw [point_asc hf hc] at hb
      have hw : writeV f c = some [c] := by rw [writeV_single hf, hb.1, if_neg (by omega)]
      rw [encF_some hw, ih (fun x hx => h x (List.mem_cons_of_mem _ hx))]; rfl
  · intro l h
    rw [encF_utf, encB_asc l h]
theorem ascii_plain (s : ByteArray) (l : List Int) (h : Asc l) (hf : Single (formV s) ∨ formV s = 2) : decodeV s l = (l, 0, 0) ∧ encodeV s l = (l, 0, 0) := by
  have hb : bomV (formV s) = [] := by
    rcases hf with hf | hf
    · rcases hf with hf | hf | hf | hf <;> rw [hf] <;> rfl
    · rw [hf]; rfl
  have h0 : formV s ≠ 0 := by
    rcases hf with hf | hf
    · rcases hf with hf | hf | hf | hf <;> rw [hf] <;> decide
    · rw [hf]; decide
  have he := encF_asc hf l h
  have h1 := decode_enc (s := s) (allPt_asc h) h0 (by rw [he])
  have h2 := encode_of (s := s) (allPt_asc h) h0 (by rw [he])
  rw [he, hb, encB_asc l h] at h1
  rw [he, hb, encB_asc l h] at h2
  exact ⟨h1, h2⟩
/-- A set's name. -/
theorem low_list (s : ByteArray) : (lowS s).toList = U8 (lowL (bytesOf s)) := by unfold lowS; exact sn_toList _
theorem low_eq {s : ByteArray} {xs : List Int} (hx : Bytes xs) (h : (lowS s).toList = U8 xs) : lowL (bytesOf s) = xs := by
  rw [low_list] at h
  exact U8_inj (lowL_bytes (bytesOf_bytes s)) hx h
theorem low_digit {c d : Int} (h : lowC c = d) (hd : d < 65) : c = d := by
  unfold lowC at h
  split at h <;> omega
theorem low_rd {s : ByteArray} {xs : List Int} (h : lowL (bytesOf s) = xs) (i : Nat) (hi : i < xs.length) : lowC (bt s (i : Int)) = rd xs (i : Int) := by
  subst h
  rw [lowL_length] at hi
  rw [← rd_bytesOf, rd_lt _ i hi, rd_lt _ i (by rw [lowL_length]; exact hi)]
  simp [lowL]
theorem low_size {s : ByteArray} {xs : List Int} (h : lowL (bytesOf s) = xs) : s.size = xs.length := by
  rw [← h, lowL_length, bytesOf_length]
theorem form_six {s : ByteArray} (h : formV s = 6) : s.size = 6 ∧ bt s 3 = 45 ∧ bt s 4 = 49 ∧ bt s 5 = 54 := by
  have hl : (lowS s).toList = U8 [117, 116, 102, 45, 49, 54] := by
    unfold formV formL at h
    repeat' split at h
    all_goals first
      | (exact absurd h (by decide))
      | assumption
  have he := low_eq (by intro x hx; simp at hx; omega) hl
  refine ⟨low_size he, ?_, ?_, ?_⟩
  · exact low_digit (low_rd he 3 (by decide)) (by decide)
  · exact low_digit (low_rd he 4 (by decide)) (by decide)
  · exact low_digit (low_rd he 5 (by decide)) (by decide)
theorem form_wide {s : ByteArray} (h : Wide (formV s)) : 6 ≤ s.size ∧ bt s 4 = 49 ∧ bt s 5 = 54 := by
  rcases h with h | h | h
  · obtain ⟨h1, _, h2, h3⟩ := form_six h
    exact ⟨by omega, h2, h3⟩
  · have hl : (lowS s).toList = U8 [117, 116, 102, 45, 49, 54, 98, 101] := by
      unfold formV formL at h
      repeat' split at h
      all_goals first
        | (exact absurd h (by decide))
        | assumption
    have he := low_eq (by intro x hx; simp at hx; omega) hl
    have hz := low_size he
    exact ⟨by rw [hz]; decide, low_digit (low_rd he 4 (by decide)) (by decide), low_digit (low_rd he 5 (by decide)) (by decide)⟩
  · have hl : (lowS s).toList = U8 [117, 116, 102, 45, 49, 54, 108, 101] := by
      unfold formV formL at h
      repeat' split at h
      all_goals first
        | (exact absurd h (by decide))
        | assumption
    have he := low_eq (by intro x hx; simp at hx; omega) hl
    have hz := low_size he
    exact ⟨by rw [hz]; decide, low_digit (low_rd he 4 (by decide)) (by decide), low_digit (low_rd he 5 (by decide)) (by decide)⟩
end Go.Proofs.Ytpbgpbblbohmgaa
