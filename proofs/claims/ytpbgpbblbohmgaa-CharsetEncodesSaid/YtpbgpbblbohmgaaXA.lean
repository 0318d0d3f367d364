/- Words of this session's own, over the kit's library: small facts that the walks below use. More words of this session's own: cuts of a row of one's own; steps of a world. Functions over fuel: what they come to from some fuel on. Bytes of a block that bears a conversion's mark; a text with small letters, in plain terms. charset.lower: what each call comes to. Whole rows, as the walk meets them. -/
import Derived.Test.YtpbgpbblbohmgaaProg
import Derived.Test.YtpbgpbblbohmgaaWWords
import Derived.WalkKit
import Derived.WalkSpells
import Derived.WalkMore
import Derived.ScopeJumps
import Derived.Lib.Hide
import Derived.Deep.RegionHeld3
import Derived.Deep.DeepCutAuto
import Derived.Deep.CutBlock
import Derived.Deep.LoopGhost
import Derived.StillTailTactics
import Derived.Laws.BitsLemmas
import Derived.Outline
import Derived.KernelRfl
import Derived.OwnWalk
import Derived.Deep.WholeRow
import Derived.Laws.Tables
namespace Go.Proofs.Ytpbgpbblbohmgaa
open Go.RowKit Go.Proofs.YtpbgpbblbohmgaaW.PrintWords

theorem infoI32 : (Try.prog.info? 21).map (fun i => (i.zero, i.size, i.bytes)) = some (some (.int .i32 0), 1, 4) := by kernel_rfl

/-- A row of whole numbers of the call's own. -/
def ORow (k : IntKind) (e : TypeId) (w : World) (base : Nat) (v : Value) (xs : List Int) : Prop := w.ownsRow base e 1 v xs.length (nums k xs)
section
variable {k : IntKind} {e : TypeId} {w w1 : World} {base : Nat} {v : Value} {xs : List Int}
theorem ORow.nil (k : IntKind) (e : TypeId) (w : World) (base : Nat) : ORow k e w base (.slice none 0 0) [] := own_nil w base e 1
theorem ORow.reads (h : ORow k e w base v xs) : ∃ A c, v = .slice A xs.length c ∧ xs.length ≤ c ∧ ReadsInt w k A xs.length xs := by
  obtain ⟨A, c, rfl, hr⟩ := own_reads h
  exact ⟨A, c, rfl, own_le h, hr⟩
theorem ORow.below (h : ORow k e w base v xs) (hb : Below w.heap.size w w1) : ORow k e w1 base v xs := pw_own_below h hb
theorem ORow.lower {base' : Nat} (h : ORow k e w base v xs) (hb : base' ≤ base) : ORow k e w base' v xs := own_weaken h hb
theorem ORow.drew (h : ORow k e w base v xs) : ORow k e w.drew base v xs := h
theorem ORow.drewN (h : ORow k e w base v xs) (n : Nat) : ORow k e (w.drewN n) base v xs := h
theorem ORow.alloc (h : ORow k e w base v xs) (o : Obj) : ORow k e (w.alloc o) base v xs := h.below ((Below.refl _ _).alloc (Nat.le_refl _) o)
theorem ORow.lt (h : ORow k e w base v xs) : ∀ g, v.ownBlock = some g → base ≤ g ∧ g < w.heap.size := fun g hg => ⟨own_base h g hg, own_lt h g hg⟩
theorem ORow.max (h : ORow k e w base v xs) : xs.length ≤ 9223372036854775807 := by
  obtain ⟨A, c, _, _, hr⟩ := h.reads
  exact hr.2.1
theorem ORow.lit (k : IntKind) (e : TypeId) (W : World) (base : Nat) (xs : List Int) (cs : Array Value) (n g : Nat) (hg : g = W.heap.size) (hcs : cs = (nums k xs).toArray) (hn : n = xs.length) (hb : base ≤ W.heap.size) (hl : xs.length ≤ 9223372036854775807) :
    ORow k e (W.alloc (.cells cs e)) base (.slice (some ⟨g, 0, none⟩) n n) xs := by
  subst hg; subst hcs; subst hn
  exact own_lit W base e k xs hb hl
theorem lit_reads (k : IntKind) (e : TypeId) (W : World) (xs : List Int) (cs : Array Value) (n g : Nat) (hg : g = W.heap.size) (hcs : cs = (nums k xs).toArray) (hn : n = xs.length) (hl : xs.length ≤ 9223372036854775807) :
    ReadsInt (W.alloc (.cells cs e)) k (some ⟨g, 0, none⟩) n xs := by
  obtain ⟨A, c, hv, _, hr⟩ := (ORow.lit k e W 0 xs cs n g hg hcs hn (Nat.zero_le _) hl).reads
  injection hv with h1 h2 h3
  subst h1; subst h2
  exact hr
/-- A store into a block that is another type's. -/
theorem ORow.set_ {g t : Nat} {cells : Array Value} (h : ORow k e w base v xs) (hb : w.heap[g]? = some (.cells cells t (0, 0))) (ht : e ≠ t) (j : Nat) (u : Value) : ORow k e (w.setCell ⟨g, j, none⟩ u) base v xs :=
  own_setCell h (own_ne h hb ht) u
end

theorem infoU8 : (Try.prog.info? 5).map (fun i => (i.zero, i.size, i.bytes)) = some (some (.int .u8 0), 1, 1) := by kernel_rfl

theorem rd_lt (l : List Int) (j : Nat) (h : j < l.length) : rd l (j : Int) = l[j] := by
  simp [rd, h]

/-- Bytes, as numbers. -/
def Bytes (l : List Int) : Prop := ∀ x ∈ l, 0 ≤ x ∧ x ≤ 255
theorem Bytes.rd {l : List Int} (h : Bytes l) (j : Nat) : 0 ≤ rd l (j : Int) ∧ rd l (j : Int) ≤ 255 := by
  by_cases hj : j < l.length
  · rw [rd_lt l j hj]; exact h _ (List.getElem_mem hj)
  · have e : Go.Proofs.YtpbgpbblbohmgaaW.PrintWords.rd l (j : Int) = 0 := by simp [Go.Proofs.YtpbgpbblbohmgaaW.PrintWords.rd, List.getElem?_eq_none (Nat.le_of_not_lt hj)]
    rw [e]; omega
theorem Bytes.drop {l : List Int} (h : Bytes l) (n : Nat) : Bytes (l.drop n) := fun x hx => h x (List.mem_of_mem_drop hx)
theorem Bytes.take {l : List Int} (h : Bytes l) (n : Nat) : Bytes (l.take n) := fun x hx => h x (List.mem_of_mem_take hx)
theorem Bytes.append {l m : List Int} (h : Bytes l) (k : Bytes m) : Bytes (l ++ m) := fun x hx => (List.mem_append.1 hx).elim (h x) (k x)

/-- The greater, the smaller of two numbers. -/
def mx (a b : Int) : Int := if a < b then b else a
def mn (a b : Int) : Int := if b < a then b else a
theorem max_ints (ats : Array TypeId) (ty : TypeId) (k k' : IntKind) (x y : Int) : Builtin.max_ ats ty #[.int k x, .int k' y] = pure (.int k (mx x y)) := by
  simp only [Builtin.max_, List.foldlM_cons, List.foldlM_nil, Builtin.max2, mx, gt_iff_lt, pure_bind]
theorem min_ints (ats : Array TypeId) (ty : TypeId) (k k' : IntKind) (x y : Int) : Builtin.min_ ats ty #[.int k x, .int k' y] = pure (.int k (mn x y)) := by
  simp only [Builtin.min_, List.foldlM_cons, List.foldlM_nil, Builtin.min2, mn, pure_bind]

/-- Bytes as a string: equal just where the bytes are. -/
def U8 (xs : List Int) : List UInt8 := xs.map fun n => UInt8.ofNat n.toNat
theorem sn_toList (xs : List Int) : (strOfNums xs).toList = U8 xs := by simp [strOfNums, U8]
theorem U8_inj : ∀ {xs ys : List Int}, Bytes xs → Bytes ys → U8 xs = U8 ys → xs = ys
  | [], [], _, _, _ => rfl
  | [], _ :: _, _, _, h => by simp [U8] at h
  | _ :: _, [], _, _, h => by simp [U8] at h
  | x :: xs, y :: ys, hx, hy, h => by
    simp only [U8, List.map_cons, List.cons.injEq] at h
    have h1 := hx x List.mem_cons_self
    have h2 := hy y List.mem_cons_self
    have e : x = y := by
      have h3 := congrArg UInt8.toNat h.1
      simp only [UInt8.toNat_ofNat'] at h3
      omega
    rw [e, U8_inj (fun z hz => hx z (List.mem_cons_of_mem _ hz)) (fun z hz => hy z (List.mem_cons_of_mem _ hz)) h.2]
theorem sn_beq {xs ys : List Int} (hx : Bytes xs) (hy : Bytes ys) : ((strOfNums xs).toList == (strOfNums ys).toList) = decide (xs = ys) := by
  rw [sn_toList, sn_toList]
  by_cases h : xs = ys
  · subst h; simp
  · rw [decide_eq_false h]; exact beq_eq_false_iff_ne.mpr fun e => h (U8_inj hx hy e)

theorem below_first {w : World} (o : Obj) : Below w.heap.size w (w.alloc o) := (Below.refl _ _).alloc (Nat.le_refl _) _

theorem b_drew {B : Nat} {w W : World} (h : Below B w W) : Below B w W.drew := ⟨h.os, h.tape, h.output, h.size, h.block⟩

theorem or192 (y : Int) (h0 : 0 ≤ y) (h1 : y < 32) : bits BinOp.or IntKind.u8 192 (IntKind.u8.wrap y) = 192 + y := by
  rw [wraps_u8 _ h0 (by omega), u8_or192 _ h0 h1]
theorem or224 (y : Int) (h0 : 0 ≤ y) (h1 : y < 16) : bits BinOp.or IntKind.u8 224 (IntKind.u8.wrap y) = 224 + y := by
  rw [wraps_u8 _ h0 (by omega), u8_or224 _ h0 h1]
theorem or240 (y : Int) (h0 : 0 ≤ y) (h1 : y < 8) : bits BinOp.or IntKind.u8 240 (IntKind.u8.wrap y) = 240 + y := by
  rw [wraps_u8 _ h0 (by omega), u8_or240 _ h0 h1]
end Go.Proofs.Ytpbgpbblbohmgaa
namespace Go.Proofs.Ytpbgpbblbohmgaa
open Go.RowKit Go.Proofs.YtpbgpbblbohmgaaW.PrintWords

theorem ORow.take {k : IntKind} {e : TypeId} {w : World} {base n m c : Nat} {A : Option Addr} {xs : List Int} (h : ORow k e w base (.slice A n c) xs) (hn : n = xs.length) (hm : m ≤ n) : ORow k e w base (.slice A (xs.take m).length c) (xs.take m) := by
  subst hn
  have h2 := own_take h hm
  rw [Nat.mul_one] at h2
  have hl : (xs.take m).length = m := by rw [List.length_take]; omega
  have hnum : nums k (xs.take m) = (nums k xs).take m := by simp [nums, List.map_take]
  unfold ORow
  rw [hl, hnum]
  exact h2
theorem rd_drop (l : List Int) (m i : Nat) : rd (l.drop m) (i : Int) = rd l ((m + i : Nat) : Int) := by
  simp only [rd, List.getD_eq_getElem?_getD, List.getElem?_drop, Int.toNat_natCast]
theorem rd_zero_drop (l : List Int) (m : Nat) : rd (l.drop m) 0 = rd l (m : Int) := by
  have := rd_drop l m 0
  simpa using this
end Go.Proofs.Ytpbgpbblbohmgaa
namespace Go.Proofs.Ytpbgpbblbohmgaa
open Go.RowKit Go.Proofs.YtpbgpbblbohmgaaW.PrintWords

/-- From some fuel on it is r. -/
def Ev {α : Type} (g : Nat → Option α) (r : α) : Prop := ∃ k0, ∀ k, k0 ≤ k → g k = some r
section
variable {α β : Type} {g h : Nat → Option α} {r : α}
theorem Ev.step (hd : ∀ k, g (k + 1) = h k) (he : Ev h r) : Ev g r := by
  obtain ⟨k0, h0⟩ := he
  refine ⟨k0 + 1, fun k hk => ?_⟩
  obtain ⟨j, rfl⟩ : ∃ j, k = j + 1 := ⟨k - 1, by omega⟩
  rw [hd]; exact h0 j (by omega)
theorem Ev.done (r : α) : Ev (fun _ => some r) r := ⟨0, fun _ _ => rfl⟩
theorem Ev.bind {p : Nat → Option β} {q : Nat → β → Option α} {x : β} (hp : Ev p x) (hq : Ev (fun k => q k x) r) : Ev (fun k => (p k).bind (q k)) r := by
  obtain ⟨k0, h0⟩ := hp
  obtain ⟨k1, h1⟩ := hq
  refine ⟨k0 + k1, fun k hk => ?_⟩
  show (p k).bind (q k) = some r
  rw [h0 k (by omega)]; exact h1 k (by omega)
theorem Ev.pos {c : Prop} [Decidable c] {a b : Nat → Option α} (hc : c) (h : Ev a r) : Ev (fun k => if c then a k else b k) r := by
  simp only [if_pos hc]; exact h
theorem Ev.neg {c : Prop} [Decidable c] {a b : Nat → Option α} (hc : ¬ c) (h : Ev b r) : Ev (fun k => if c then a k else b k) r := by
  simp only [if_neg hc]; exact h
theorem Ev.get (he : Ev g r) : ∃ k, g k = some r := by
  obtain ⟨k0, h0⟩ := he
  exact ⟨k0, h0 k0 (Nat.le_refl _)⟩
theorem Ev.mono (hm : ∀ k, LeO (g k) (g (k + 1))) (k0 : Nat) (he : g k0 = some r) : Ev g r := by
  refine ⟨k0, fun k hk => ?_⟩
  obtain ⟨d, rfl⟩ : ∃ d, k = k0 + d := ⟨k - k0, by omega⟩
  clear hk
  induction d with
  | zero => exact he
  | succ d ih => exact hm _ _ ih
theorem Ev.of (he : g = h) (hh : Ev h r) : Ev g r := he ▸ hh
end
theorem wrap64_id (x : Int) (h0 : -9223372036854775808 ≤ x) (h1 : x < 9223372036854775808) : wrap64 x = x := by
  unfold wrap64
  omega
theorem tmod_pos (a b : Int) (h : 0 ≤ a) : Int.tmod a b = a % b := Int.tmod_eq_emod_of_nonneg h
theorem tdiv_pos (a b : Int) (h : 0 ≤ a) : Int.tdiv a b = a / b := Int.tdiv_eq_ediv_of_nonneg h
end Go.Proofs.Ytpbgpbblbohmgaa
namespace Go.Proofs.Ytpbgpbblbohmgaa
open Go.RowKit Go.Proofs.YtpbgpbblbohmgaaW.PrintWords

def lowC (c : Int) : Int := if 65 ≤ c ∧ c ≤ 90 then c + 32 else c
def lowL (l : List Int) : List Int := l.map lowC
def lowS (s : ByteArray) : ByteArray := strOfNums (lowL (bytesOf s))
theorem bytesOf_bytes (s : ByteArray) : Bytes (bytesOf s) := by
  intro x hx
  simp only [bytesOf, List.mem_map] at hx
  obtain ⟨b, _, rfl⟩ := hx
  have := b.toNat_lt
  omega
theorem lowC_range {c : Int} (h0 : 0 ≤ c) (h1 : c ≤ 255) : 0 ≤ lowC c ∧ lowC c ≤ 255 := by unfold lowC; split <;> omega
theorem lowL_length (l : List Int) : (lowL l).length = l.length := by simp [lowL]
theorem lowL_bytes {l : List Int} (h : Bytes l) : Bytes (lowL l) := by
  intro x hx
  simp only [lowL, List.mem_map] at hx
  obtain ⟨c, hc, rfl⟩ := hx
  exact lowC_range (h c hc).1 (h c hc).2
/-- Bytes in a block, whatever its mark behind them. -/
def BlkB (w : World) (g : Nat) (xs : List Int) : Prop :=
  ∃ cur t lo hi, w.heap[g]? = some (.cells cur t (lo, hi)) ∧ xs.length ≤ lo ∧ xs.length ≤ 9223372036854775807 ∧ ∀ j, j < xs.length → cur[j]? = some (.int .u8 (rd xs (j : Int)))
theorem BlkB.cell {w : World} {g : Nat} {xs : List Int} (h : BlkB w g xs) (j : Nat) (hj : j < xs.length) : w.cell? ⟨g, j, none⟩ = some (.int .u8 (rd xs (j : Int))) ∧ w.frozen? ⟨g, j, none⟩ = false := by
  obtain ⟨cur, t, lo, hi, hb, hlo, _, hc⟩ := h
  constructor
  · simp [World.cell?, hb, hc j hj]
  · simp [World.frozen?, hb]; omega
theorem BlkB.reads {w : World} {g : Nat} {xs : List Int} (h : BlkB w g xs) : ReadsInt w .u8 (some ⟨g, 0, none⟩) xs.length xs := by
  refine ⟨rfl, ?_, fun _ => ⟨_, rfl, fun j hj => ?_⟩⟩
  · obtain ⟨_, _, _, _, _, _, hm, _⟩ := h; exact hm
  · rw [add_plain, (h.cell j hj).1, rd_lt xs j hj]; simp [List.getD_eq_getElem?_getD, hj]
theorem BlkB.lt {w : World} {g : Nat} {xs : List Int} (h : BlkB w g xs) : g < w.heap.size := by
  obtain ⟨cur, t, lo, hi, hb, _⟩ := h; exact blk_lt hb
theorem BlkB.below {w w' : World} {g : Nat} {xs : List Int} (h : BlkB w g xs) (hB : Below w.heap.size w w') : BlkB w' g xs := by
  have hl := h.lt
  obtain ⟨cur, t, lo, hi, hb, r⟩ := h
  exact ⟨cur, t, lo, hi, (hB.block g hl).trans hb, r⟩
theorem heap_set_any {w : World} {g : Nat} {cs : Array Value} {t : TypeId} {f : Nat × Nat} (h : w.heap[g]? = some (.cells cs t f)) (i : Nat) (u : Value) : (w.setCell ⟨g, i, none⟩ u).heap[g]? = some (.cells (cs.setIfInBounds i u) t f) := by
  simp [World.setCell, Array.getElem?_modify, h]
theorem BlkB.set {w : World} {g : Nat} {xs : List Int} (h : BlkB w g xs) (i : Nat) (x : Int) : BlkB (w.setCell ⟨g, i, none⟩ (.int .u8 x)) g (xs.set i x) := by
  obtain ⟨cur, t, lo, hi, hb, h1, h2, h3⟩ := h
  refine ⟨_, t, lo, hi, heap_set_any hb i _, by simpa using h1, by simpa using h2, fun j hj => ?_⟩
  rw [List.length_set] at hj
  rw [Array.getElem?_setIfInBounds]
  by_cases e : i = j
  · subst e
    have hlt : i < cur.size := by
      rcases Nat.lt_or_ge i cur.size with h | h
      · exact h
      · have := h3 i hj; rw [Array.getElem?_eq_none h] at this; cases this
    simp [hlt, rd, hj]
  · simp only [e, if_false]
    rw [h3 j hj]
    simp [rd, List.getD_eq_getElem?_getD, List.getElem?_set, e]
theorem blkB_new (W : World) (e : TypeId) (s : ByteArray) (hs : s.size ≤ 9223372036854775807) : BlkB (Lib.bytesWorld W e s) W.heap.size (bytesOf s) := by
  refine ⟨_, e, _, _, Lib.bytesWorld_at_new W e s, ?_, by rw [bytesOf_length]; exact hs, fun j hj => ?_⟩
  · rw [bytesOf_length]; simp only [Lib.bytesCells, Array.size_append, Array.size_map]; exact Nat.le_add_right _ _
  · have h := Lib.bytesWorld_cell W e s j (by rw [← bytesOf_length]; exact hj)
    simp only [World.cell?, Lib.bytesWorld_at_new] at h
    rw [rd_lt _ j hj]
    refine Eq.trans h ?_
    have h' : j < s.data.toList.length := by simpa [bytesOf] using hj
    simp [bytesOf, List.getD_eq_getElem?_getD, List.getElem?_eq_getElem h']
/-- Those below k are done. -/
def lowK (k : Nat) (l : List Int) : List Int := lowL (l.take k) ++ l.drop k
theorem lowK_length (k : Nat) (l : List Int) : (lowK k l).length = l.length := by simp [lowK, lowL]; omega
theorem lowK_zero (l : List Int) : lowK 0 l = l := by simp [lowK, lowL]
theorem lowK_full (l : List Int) : lowK l.length l = lowL l := by simp [lowK]
theorem lowK_at (k : Nat) (l : List Int) (h : k < l.length) : rd (lowK k l) (k : Int) = rd l (k : Int) := by
  have hk : (lowL (l.take k)).length = k := by rw [lowL_length, List.length_take]; omega
  simp only [rd, lowK, List.getD_eq_getElem?_getD, Int.toNat_natCast]
  rw [List.getElem?_append_right (by omega), hk, Nat.sub_self, List.getElem?_drop, Nat.add_zero]
theorem lowK_set (k : Nat) (l : List Int) (h : k < l.length) (x : Int) (hx : lowC (rd l (k : Int)) = x) : (lowK k l).set k x = lowK (k + 1) l := by
  subst hx
  rw [rd_lt l k h]
  unfold lowK lowL
  have hk : ((l.take k).map lowC).length = k := by simp; omega
  rw [List.set_append_right _ _ (by omega), hk, Nat.sub_self, List.take_succ_eq_append_getElem h, List.drop_eq_getElem_cons h, List.set_cons_zero, List.map_append]
  simp
theorem lowK_same (k : Nat) (l : List Int) (h : k < l.length) (hx : lowC (rd l (k : Int)) = rd l (k : Int)) : lowK k l = lowK (k + 1) l := by
  rw [← lowK_set k l h _ hx]
  have h2 := lowK_at k l h
  rw [rd_lt _ k (by rw [lowK_length]; exact h)] at h2
  rw [← h2, List.set_getElem_self]
end Go.Proofs.Ytpbgpbblbohmgaa
namespace Go.Proofs.Ytpbgpbblbohmgaa
open Go.RowKit Go.Proofs.YtpbgpbblbohmgaaW.PrintWords
set_option maxRecDepth 100000 in
set_option maxHeartbeats 1000000 in
theorem charset_lower_any (s : ByteArray) (w : World) (hs : s.size ≤ 9223372036854775807) :
    Calls Try.prog 38 #[.string s] w fun e w' => e = .returned (.string (lowS s)) ∧ Below w.heap.size w w' := by
  have kb := fun W => print_bytes (P := Try.prog) 9 22 5 Try.underlying9 Try.underlying22 Try.underlying5 s W
  have HL : Hid (bytesOf s = bytesOf s) := Lib.hid rfl
  have HBL := Lib.hid (bytesOf_length s)
  have HS : Hid (lowS s = strOfNums (lowL (bytesOf s))) := Lib.hid rfl
  have HBY := Lib.hid (bytesOf_bytes s)
  have HN := Lib.hid (blkB_new w 5 s hs)
  have HB0 := Lib.hid (bytes_below (Below.refl w.heap.size w) (Nat.le_refl _) 5 s)
  go_enter Try.func38, Try.ntmps38
  go_wp2
  clear kb
  generalize Lib.bytesWorld w 5 s = w1 at *
  generalize bytesOf s = L at *
  generalize grownCap w s.size 0 5 = cap at *
  go_loopw [10] (fun s10 wr => ∃ k : Nat, k ≤ s.size ∧ s10 = .int .i64 k ∧ Hid (Below w.heap.size w wr) ∧ Hid (BlkB wr w.heap.size (lowK k L))) (fun s10 _ => s.size - (intOf s10).toNat)
  case atStart => exact ⟨0, Nat.zero_le _, rfl, HB0, Lib.hid (by rw [lowK_zero]; exact HN.out)⟩
  case round =>
    obtain ⟨k, hk, rfl, HB, HK⟩ := hrel
    by_cases hlt : k < s.size
    · have hkl : k < L.length := by have := HBL.out; omega
      obtain ⟨hcell, hfz⟩ := HK.out.cell k (by rw [lowK_length]; exact hkl)
      rw [lowK_at k L hkl] at hcell
      have hr := HBY.out.rd k
      have HSET := Lib.hid (lowK_set k L hkl)
      have HSAME := Lib.hid (lowK_same k L hkl)
      generalize rd L (k : Int) = c at *
      obtain ⟨hc0, hc1⟩ := hr
      clear hkl
      by_cases h1 : 65 ≤ c
      · by_cases h2 : c ≤ 90
        · go_wp2
          go_round
          case rel =>
            refine ⟨k + 1, by omega, by simp, Lib.hid (HB.out.setCell (Nat.le_refl _) _), Lib.hid ?_⟩
            rw [← HSET.out (c + 32) (by unfold lowC; rw [if_pos ⟨h1, h2⟩])]
            exact HK.out.set k _
          case measure => simp [intOf]; omega
        · go_wp2
          go_round
          case rel => exact ⟨k + 1, by omega, by simp, HB, Lib.hid (by rw [← HSAME.out (by unfold lowC; rw [if_neg (by omega)])]; exact HK.out)⟩
          case measure => simp [intOf]; omega
      · go_wp2
        go_round
        case rel => exact ⟨k + 1, by omega, by simp, HB, Lib.hid (by rw [← HSAME.out (by unfold lowC; rw [if_neg (by omega)])]; exact HK.out)⟩
        case measure => simp [intOf]; omega
    · obtain rfl : k = s.size := by omega
      have HF : Hid (BlkB wr w.heap.size (lowL L)) := Lib.hid (by have h := HK.out; rw [← HBL.out, lowK_full] at h; exact h)
      have kcv := string_of_reads (P := Try.prog) (c := cap) Try.underlying22 Try.underlying5 Try.underlying9 HF.out.reads
      rw [lowL_length, HBL.out] at kcv
      go_wp2
      go_ret
      exact ⟨by rw [HS.out]; rfl, HB.out⟩
end Go.Proofs.Ytpbgpbblbohmgaa
namespace Go.Proofs.Ytpbgpbblbohmgaa
open Go.RowKit Go.Proofs.YtpbgpbblbohmgaaW.PrintWords
section
variable {P : Program} {ops : Array Oper} {rest : List Oper} {Q : Exit → Act → World → Prop} {d : Option Tmp} {x y : Operand} {ty ty' t : TypeId} {pos : String} {af : Array Edge} {a : Act} {w : World}
theorem at_load_row (g : Nat) (cs : Array Value) (fr : Nat × Nat) (de : TypeDesc) (hg : w.heap[g]? = some (.cells cs t fr)) (hu : P.underlying ty = some de) (hi : (P.info? ty).map (·.size) = some cs.size) (hd : (match de with | .struct _ | .array _ _ => true | _ => false) = true)
    (hx : a.eval x = .pointer (some ⟨g, 0, none⟩)) (h : wpList P ops Q rest (a.put d (.agg cs)) w) : wpList P ops Q (⟨d, .load ty x, ty', pos, af, none⟩ :: rest) a w :=
  wpList_load_row rfl ty x rfl g hx t cs fr de hg hu hd hi h
/-- A store into the block that was made last. -/
theorem at_store_new (W0 : World) (c c' : Array Value) (hi : (P.info? ty).map (·.size) = some c'.size) (hs : c.size = c'.size) (h1 : c'.all (·.oneCell') = true)
    (hx : a.eval x = .pointer (some ⟨W0.heap.size, 0, none⟩)) (hy : a.eval y = .agg c')
    (h : wpList P ops Q rest (a.put d undef) (W0.alloc (.cells c' t))) : wpList P ops Q (⟨d, .store ty x y, ty', pos, af, none⟩ :: rest) a (W0.alloc (.cells c t)) := by
  refine wpList_store_row rfl ty x y rfl W0.heap.size c' hx hy t c (heap_alloc_last W0 _) hi hs h1 ?_
  rw [World.setRow_alloc_new]; exact h
end
end Go.Proofs.Ytpbgpbblbohmgaa
