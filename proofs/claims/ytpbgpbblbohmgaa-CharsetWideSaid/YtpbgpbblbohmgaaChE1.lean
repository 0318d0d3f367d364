/- charset: byteOf, put, write. -/
import Derived.Test.YtpbgpbblbohmgaaChD5
namespace Go.Proofs.Ytpbgpbblbohmgaa
open Go.RowKit Go.Proofs.YtpbgpbblbohmgaaW.PrintWords

/-- The byte of a point in a set of one byte, from c on; -1: it has none. -/
def byteF (f p : Int) : Nat → Nat → Int
  | 0, _ => -1
  | k + 1, c => if pointV f (c : Int) = p then (c : Int) else byteF f p k (c + 1)
def byteV (f p : Int) : Int := byteF f p 256 0
theorem byteF_range (f p : Int) : ∀ k c, byteF f p k c = -1 ∨ ((c : Int) ≤ byteF f p k c ∧ byteF f p k c < (c : Int) + k ∧ pointV f (byteF f p k c) = p)
  | 0, c => .inl rfl
  | k + 1, c => by
    rw [byteF]
    split
    · rename_i h
      exact .inr ⟨Int.le_refl _, by omega, h⟩
    · rcases byteF_range f p k (c + 1) with h | ⟨h1, h2, h3⟩
      · exact .inl h
      · exact .inr ⟨by omega, by omega, h3⟩
theorem byteV_range (f p : Int) : byteV f p = -1 ∨ (0 ≤ byteV f p ∧ byteV f p ≤ 255 ∧ pointV f (byteV f p) = p) := by
  rcases byteF_range f p 256 0 with h | ⟨h1, h2, h3⟩
  · exact .inl h
  · exact .inr ⟨by unfold byteV; simpa using h1, by unfold byteV; simp at h2; omega, h3⟩
set_option maxHeartbeats 1000000 in
theorem byteOf_any (f p : Int) (w : World) : Calls Try.prog 39 #[.int .i64 f, .int .i32 p] w fun e w' => e = .returned (.int .i64 (byteV f p)) ∧ Below w.heap.size w w' := by
  have HV : Hid (byteV f p = byteF f p 256 0) := Lib.hid rfl
  generalize byteV f p = V at *
  go_enter Try.func39, Try.ntmps39
  go_wp2
  go_loopw [6] (fun s6 wr => ∃ n : Nat, n ≤ 256 ∧ s6 = .int .i64 n ∧ Hid (Below w.heap.size w wr) ∧ Hid (V = byteF f p (256 - n) n)) (fun s6 _ => 256 - (intOf s6).toNat)
  case atStart => exact ⟨0, by omega, rfl, Lib.hid (Below.refl _ _), HV⟩
  case round =>
    obtain ⟨n, hn, rfl, HB, HN⟩ := hrel
    have hn0 : (0 : Int) ≤ (n : Int) := Int.natCast_nonneg _
    by_cases hlt : n < 256
    · have hn1 : (n : Int) < 256 := by omega
      have HC := Lib.hid (point_any f (n : Int) wr (by omega) (by omega))
      have HST : Hid (byteF f p (256 - n) n = if pointV f (n : Int) = p then (n : Int) else byteF f p (256 - (n + 1)) (n + 1)) := Lib.hid (by rw [show 256 - n = (256 - (n + 1)) + 1 by omega, byteF])
      generalize pointV f (n : Int) = q at *
      by_cases hq : q = p
      · have b1 : (q == p) = true := beq_iff_eq.mpr hq
        have HV2 : Hid (V = (n : Int)) := Lib.hid (by rw [HN.out, HST.out, if_pos hq])
        clear hq
        go_wp2_with (go_at_call 46; ((with_reducible refine HC.out.mono ?_); rintro e w1 ⟨rfl, hB⟩; have HB1 := Lib.hid (below_then HB.out HB.out.size hB); clear hB))
        go_ret
        exact ⟨by rw [HV2.out]; rfl, HB1.out⟩
      · have b1 : (q == p) = false := beq_eq_false_iff_ne.mpr hq
        have HV2 : Hid (V = byteF f p (256 - (n + 1)) (n + 1)) := Lib.hid (by rw [HN.out, HST.out, if_neg hq])
        clear hq
        go_wp2_with (go_at_call 46; ((with_reducible refine HC.out.mono ?_); rintro e w1 ⟨rfl, hB⟩; have HB1 := Lib.hid (below_then HB.out HB.out.size hB); clear hB))
        go_roundw
        case rel => exact ⟨n + 1, by omega, by go_num, HB1, HV2⟩
        case measure => simp [intOf]; omega
    · obtain rfl : n = 256 := by omega
      go_wp2
      go_ret
      exact ⟨by rw [HN.out]; rfl, HB.out⟩
/-- What becomes of a row that is appended to. -/
structure PutTo (base : Nat) (w w' : World) (v0 v : Value) (xs : List Int) : Prop where
  own : ORow .u8 5 w' base v xs
  bel : Below base w w'
  size : w.heap.size ≤ w'.heap.size
  keep : ∀ i, i < w.heap.size → some i ≠ v0.ownBlock → w'.heap[i]? = w.heap[i]?
  at_ : v.ownBlock = v0.ownBlock ∨ ∃ b, v.ownBlock = some b ∧ w.heap.size ≤ b
theorem PutTo.trans {base : Nat} {w w1 w2 : World} {v0 v1 v2 : Value} {xs ys : List Int} (h : PutTo base w w1 v0 v1 xs) (k : PutTo base w1 w2 v1 v2 ys) : PutTo base w w2 v0 v2 ys := by
  refine ⟨k.own, h.bel.trans k.bel, Nat.le_trans h.size k.size, fun i hi hn => (k.keep i (Nat.lt_of_lt_of_le hi h.size) ?_).trans (h.keep i hi hn), ?_⟩
  · rcases h.at_ with e | ⟨b, e, hb⟩
    · rw [e]; exact hn
    · rw [e]; intro he; injection he with he; omega
  · rcases k.at_ with e | ⟨b, e, hb⟩
    · rw [e]; exact h.at_
    · exact .inr ⟨b, e, Nat.le_trans h.size hb⟩
theorem PutTo.blk {base : Nat} {w w' : World} {v0 v : Value} {xs ys : List Int} {g t : Nat} {cs : Array Value} (h : PutTo base w w' v0 v xs) (h0 : ORow .u8 5 w base v0 ys) (hg : w.heap[g]? = some (.cells cs t (0, 0))) (ht : 5 ≠ t) : w'.heap[g]? = some (.cells cs t (0, 0)) :=
  (h.keep g (blk_lt hg) (own_ne h0 hg ht)).trans hg
theorem PutTo.first {base : Nat} {w w1 w2 : World} {v0 v : Value} {xs ys : List Int} (h0 : ORow .u8 5 w base v0 ys) (hb : base ≤ w.heap.size) (hB : Below w.heap.size w w1) (h : PutTo base w1 w2 v0 v xs) : PutTo base w w2 v0 v xs :=
  ⟨h.own, (⟨hB.os, hB.tape, hB.output, hB.size, fun i hi => hB.block i (by omega)⟩ : Below base w w1).trans h.bel, Nat.le_trans hB.size h.size, fun i hi hn => (h.keep i (Nat.lt_of_lt_of_le hi hB.size) hn).trans (hB.block i hi), by
    rcases h.at_ with e | ⟨b, e, hh⟩
    · exact .inl e
    · exact .inr ⟨b, e, Nat.le_trans hB.size hh⟩⟩
def put2 (u : Int) (little : Bool) : List Int := if little = true then [u % 256, u / 256] else [u / 256, u % 256]
theorem put2_len (u : Int) (b : Bool) : (put2 u b).length = 2 := by unfold put2; split <;> rfl
theorem grown_putTo {base : Nat} {w w1 : World} {v0 v1 : Value} {xs ys : List Int} (o : Obj) (h0 : ORow .u8 5 w base v0 ys) (hb : base ≤ w.heap.size) (hO : ORow .u8 5 w1 base v1 xs) (hB : Below base w w1) (hg : (w.alloc o).grownBy w1 v0.ownBlock) (hat : v1.ownBlock = v0.ownBlock ∨ ∃ b, v1.ownBlock = some b ∧ (w.alloc o).heap.size ≤ b) : PutTo base w w1 v0 v1 xs := by
  have hs : w.heap.size ≤ (w.alloc o).heap.size := (below_first o).size
  refine ⟨hO, hB, Nat.le_trans hs hg.size, fun i hi hn => (hg.block i (Nat.lt_of_lt_of_le hi hs) hn).trans ((below_first o).block i hi), ?_⟩
  rcases hat with e | ⟨b, e, hh⟩
  · exact .inl e
  · exact .inr ⟨b, e, Nat.le_trans hs hh⟩
def PutPost2 (base : Nat) (w : World) (v0 : Value) (xs : List Int) (e : Ending) (w' : World) : Prop := ∃ v, e = .returned v ∧ PutTo base w w' v0 v xs
set_option maxRecDepth 100000 in
set_option maxHeartbeats 1000000 in
theorem put_le (u : Int) (base : Nat) (v0 : Value) (out : List Int) (w : World) (h0 : 0 ≤ u) (h1 : u ≤ 65535) (hO : ORow .u8 5 w base v0 out) (hb : base ≤ w.heap.size) (hl : out.length ≤ 35184372088832) :
    Calls Try.prog 26 #[v0, .int .i32 u, .bool true] w (PutPost2 base w v0 (out ++ put2 u true)) := by
  have HO := Lib.hid hO
  have HL := Lib.hid hl
  have HBB := Lib.hid hb
  have HP : Hid (put2 u true = [u % 256, u / 256]) := Lib.hid rfl
  have C1 : Hid (#[Value.int .u8 (u % 256), Value.int .u8 (u / 256)] = (nums .u8 (put2 u true)).toArray) := Lib.hid rfl
  have C2 : Hid (2 = (put2 u true).length) := Lib.hid rfl
  have C3 : Hid ((put2 u true).length ≤ 9223372036854775807) := Lib.hid (by rw [put2_len]; decide)
  have C6 : Hid ((out.length + 2) * 1 ≤ 140737488355328) := Lib.hid (by omega)
  generalize put2 u true = ps at *
  have e1 : IntKind.u8.wrap (u / 256) = u / 256 := by rw [wraps_u8 _ (by omega) (by omega)]
  clear hO hl hb
  go_enter Try.func26, Try.ntmps26
  go_wp2_with (first
    | (at_builtin; refine print_append_row (w0 := w) base rfl (.tmp 8) (.tmp 14) 22 5 .u8 1 rfl Try.underlying22 infoU8 (by decide) _ out ps (some ⟨w.heap.size, 0, none⟩) 2 2 rfl rfl (HO.out.alloc _) (lit_reads .u8 _ w ps _ 2 _ rfl C1.out C2.out C3.out) ((Below.refl _ _).alloc HBB.out _) (Nat.le_trans HBB.out (below_first _).size) C6.out ?_; (intro v1 w1 hO1 hB1 hg1 hat1; have G1 : Hid (ORow .u8 5 w1 base v1 (out ++ ps)) := Lib.hid hO1; have G2 := Lib.hid hB1; have G3 : Hid ((w.alloc (.cells #[.int .u8 (u % 256), .int .u8 (u / 256)] 5)).grownBy w1 v0.ownBlock) := Lib.hid hg1; have G4 : Hid (v1.ownBlock = v0.ownBlock ∨ ∃ b, v1.ownBlock = some b ∧ (w.alloc (.cells #[.int .u8 (u % 256), .int .u8 (u / 256)] 5)).heap.size ≤ b) := Lib.hid hat1; clear hO1 hB1 hg1 hat1)))
  go_ret
  exact ⟨_, rfl, grown_putTo _ HO.out HBB.out G1.out G2.out G3.out G4.out⟩
set_option maxRecDepth 100000 in
set_option maxHeartbeats 1000000 in
theorem put_be (u : Int) (base : Nat) (v0 : Value) (out : List Int) (w : World) (h0 : 0 ≤ u) (h1 : u ≤ 65535) (hO : ORow .u8 5 w base v0 out) (hb : base ≤ w.heap.size) (hl : out.length ≤ 35184372088832) :
    Calls Try.prog 26 #[v0, .int .i32 u, .bool false] w (PutPost2 base w v0 (out ++ put2 u false)) := by
  have HO := Lib.hid hO
  have HL := Lib.hid hl
  have HBB := Lib.hid hb
  have HP : Hid (put2 u false = [u / 256, u % 256]) := Lib.hid rfl
  have C1 : Hid (#[Value.int .u8 (u / 256), Value.int .u8 (u % 256)] = (nums .u8 (put2 u false)).toArray) := Lib.hid rfl
  have C2 : Hid (2 = (put2 u false).length) := Lib.hid rfl
  have C3 : Hid ((put2 u false).length ≤ 9223372036854775807) := Lib.hid (by rw [put2_len]; decide)
  have C6 : Hid ((out.length + 2) * 1 ≤ 140737488355328) := Lib.hid (by omega)
  generalize put2 u false = ps at *
  have e1 : IntKind.u8.wrap (u / 256) = u / 256 := by rw [wraps_u8 _ (by omega) (by omega)]
  clear hO hl hb
  go_enter Try.func26, Try.ntmps26
  go_wp2_with (first
    | (at_builtin; refine print_append_row (w0 := w) base rfl (.tmp 16) (.tmp 22) 22 5 .u8 1 rfl Try.underlying22 infoU8 (by decide) _ out ps (some ⟨w.heap.size, 0, none⟩) 2 2 rfl rfl (HO.out.alloc _) (lit_reads .u8 _ w ps _ 2 _ rfl C1.out C2.out C3.out) ((Below.refl _ _).alloc HBB.out _) (Nat.le_trans HBB.out (below_first _).size) C6.out ?_; (intro v1 w1 hO1 hB1 hg1 hat1; have G1 : Hid (ORow .u8 5 w1 base v1 (out ++ ps)) := Lib.hid hO1; have G2 := Lib.hid hB1; have G3 : Hid ((w.alloc (.cells #[.int .u8 (u / 256), .int .u8 (u % 256)] 5)).grownBy w1 v0.ownBlock) := Lib.hid hg1; have G4 : Hid (v1.ownBlock = v0.ownBlock ∨ ∃ b, v1.ownBlock = some b ∧ (w.alloc (.cells #[.int .u8 (u / 256), .int .u8 (u % 256)] 5)).heap.size ≤ b) := Lib.hid hat1; clear hO1 hB1 hg1 hat1)))
  go_ret
  exact ⟨_, rfl, grown_putTo _ HO.out HBB.out G1.out G2.out G3.out G4.out⟩
theorem cput_any (u : Int) (b : Bool) (base : Nat) (v0 : Value) (out : List Int) (w : World) (h0 : 0 ≤ u) (h1 : u ≤ 65535) (hO : ORow .u8 5 w base v0 out) (hb : base ≤ w.heap.size) (hl : out.length ≤ 35184372088832) :
    Calls Try.prog 26 #[v0, .int .i32 u, .bool b] w (PutPost2 base w v0 (out ++ put2 u b)) := by
  cases b
  · exact put_be u base v0 out w h0 h1 hO hb hl
  · exact put_le u base v0 out w h0 h1 hO hb hl
end Go.Proofs.Ytpbgpbblbohmgaa
