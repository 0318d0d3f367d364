/- Words of this session's own, over the kit's library: small facts that the walks below use. -/
import Derived.Test.YtlmdghafiadgjaaProg
import Derived.Test.YtlmdghafiadgjaaWWords
import Derived.WalkKit
import Derived.WalkSpells
import Derived.WalkMore
import Derived.ScopeJumps
import Derived.Lib.Hide
import Derived.Deep.RegionHeld3
import Derived.Deep.DeepCutAuto
import Derived.Deep.CutBlock
import Derived.Deep.LoopGhost
import Derived.StillTailTactics
import Derived.Laws.BitsLemmas
import Derived.Outline
import Derived.KernelRfl
import Derived.OwnWalk
namespace Go.Proofs.Ytlmdghafiadgjaa
open Go.RowKit Go.Proofs.YtlmdghafiadgjaaW.PrintWords

theorem infoI32 : (Try.prog.info? 21).map (fun i => (i.zero, i.size, i.bytes)) = some (some (.int .i32 0), 1, 4) := by kernel_rfl

/-- A row of whole numbers of the call's own. -/
def ORow (k : IntKind) (e : TypeId) (w : World) (base : Nat) (v : Value) (xs : List Int) : Prop := w.ownsRow base e 1 v xs.length (nums k xs)
section
variable {k : IntKind} {e : TypeId} {w w1 : World} {base : Nat} {v : Value} {xs : List Int}
theorem ORow.nil (k : IntKind) (e : TypeId) (w : World) (base : Nat) : ORow k e w base (.slice none 0 0) [] := own_nil w base e 1
theorem ORow.reads (h : ORow k e w base v xs) : ∃ A c, v = .slice A xs.length c ∧ xs.length ≤ c ∧ ReadsInt w k A xs.length xs := by
  obtain ⟨A, c, rfl, hr⟩ := own_reads h
  exact ⟨A, c, rfl, own_le h, hr⟩
theorem ORow.below (h : ORow k e w base v xs) (hb : Below w.heap.size w w1) : ORow k e w1 base v xs := pw_own_below h hb
theorem ORow.lower {base' : Nat} (h : ORow k e w base v xs) (hb : base' ≤ base) : ORow k e w base' v xs := own_weaken h hb
theorem ORow.drew (h : ORow k e w base v xs) : ORow k e w.drew base v xs := h
theorem ORow.drewN (h : ORow k e w base v xs) (n : Nat) : ORow k e (w.drewN n) base v xs := h
theorem ORow.alloc (h : ORow k e w base v xs) (o : Obj) : ORow k e (w.alloc o) base v xs := h.below ((Below.refl _ _).alloc (Nat.le_refl _) o)
theorem ORow.lt (h : ORow k e w base v xs) : ∀ g, v.ownBlock = some g → base ≤ g ∧ g < w.heap.size := fun g hg => ⟨own_base h g hg, own_lt h g hg⟩
theorem ORow.max (h : ORow k e w base v xs) : xs.length ≤ 9223372036854775807 := by
  obtain ⟨A, c, _, _, hr⟩ := h.reads
  exact hr.2.1
theorem ORow.lit (k : IntKind) (e : TypeId) (W : World) (base : Nat) (xs : List Int) (cs : Array Value) (n g : Nat) (hg : g = W.heap.size) (hcs : cs = (nums k xs).toArray) (hn : n = xs.length) (hb : base ≤ W.heap.size) (hl : xs.length ≤ 9223372036854775807) :
    ORow k e (W.alloc (.cells cs e)) base (.slice (some ⟨g, 0, none⟩) n n) xs := by
  subst hg; subst hcs; subst hn
  exact own_lit W base e k xs hb hl
theorem lit_reads (k : IntKind) (e : TypeId) (W : World) (xs : List Int) (cs : Array Value) (n g : Nat) (hg : g = W.heap.size) (hcs : cs = (nums k xs).toArray) (hn : n = xs.length) (hl : xs.length ≤ 9223372036854775807) :
    ReadsInt (W.alloc (.cells cs e)) k (some ⟨g, 0, none⟩) n xs := by
  obtain ⟨A, c, hv, _, hr⟩ := (ORow.lit k e W 0 xs cs n g hg hcs hn (Nat.zero_le _) hl).reads
  injection hv with h1 h2 h3
  subst h1; subst h2
  exact hr
/-- A store into a block that is another type's. -/
theorem ORow.set_ {g t : Nat} {cells : Array Value} (h : ORow k e w base v xs) (hb : w.heap[g]? = some (.cells cells t (0, 0))) (ht : e ≠ t) (j : Nat) (u : Value) : ORow k e (w.setCell ⟨g, j, none⟩ u) base v xs :=
  own_setCell h (own_ne h hb ht) u
end

theorem infoU8 : (Try.prog.info? 5).map (fun i => (i.zero, i.size, i.bytes)) = some (some (.int .u8 0), 1, 1) := by kernel_rfl

theorem rd_lt (l : List Int) (j : Nat) (h : j < l.length) : rd l (j : Int) = l[j] := by
  simp [rd, h]

/-- Bytes, as numbers. -/
def Bytes (l : List Int) : Prop := ∀ x ∈ l, 0 ≤ x ∧ x ≤ 255
theorem Bytes.rd {l : List Int} (h : Bytes l) (j : Nat) : 0 ≤ rd l (j : Int) ∧ rd l (j : Int) ≤ 255 := by
  by_cases hj : j < l.length
  · rw [rd_lt l j hj]; exact h _ (List.getElem_mem hj)
  · have e : Go.Proofs.YtlmdghafiadgjaaW.PrintWords.rd l (j : Int) = 0 := by simp [Go.Proofs.YtlmdghafiadgjaaW.PrintWords.rd, List.getElem?_eq_none (Nat.le_of_not_lt hj)]
    rw [e]; omega
theorem Bytes.drop {l : List Int} (h : Bytes l) (n : Nat) : Bytes (l.drop n) := fun x hx => h x (List.mem_of_mem_drop hx)
theorem Bytes.take {l : List Int} (h : Bytes l) (n : Nat) : Bytes (l.take n) := fun x hx => h x (List.mem_of_mem_take hx)
theorem Bytes.append {l m : List Int} (h : Bytes l) (k : Bytes m) : Bytes (l ++ m) := fun x hx => (List.mem_append.1 hx).elim (h x) (k x)

/-- The greater, the smaller of two numbers. -/
def mx (a b : Int) : Int := if a < b then b else a
def mn (a b : Int) : Int := if b < a then b else a
theorem max_ints (ats : Array TypeId) (ty : TypeId) (k k' : IntKind) (x y : Int) : Builtin.max_ ats ty #[.int k x, .int k' y] = pure (.int k (mx x y)) := by
  simp only [Builtin.max_, List.foldlM_cons, List.foldlM_nil, Builtin.max2, mx, gt_iff_lt, pure_bind]
theorem min_ints (ats : Array TypeId) (ty : TypeId) (k k' : IntKind) (x y : Int) : Builtin.min_ ats ty #[.int k x, .int k' y] = pure (.int k (mn x y)) := by
  simp only [Builtin.min_, List.foldlM_cons, List.foldlM_nil, Builtin.min2, mn, pure_bind]

/-- Bytes as a string: equal just where the bytes are. -/
def U8 (xs : List Int) : List UInt8 := xs.map fun n => UInt8.ofNat n.toNat
theorem sn_toList (xs : List Int) : (strOfNums xs).toList = U8 xs := by simp [strOfNums, U8]
theorem U8_inj : ∀ {xs ys : List Int}, Bytes xs → Bytes ys → U8 xs = U8 ys → xs = ys
  | [], [], _, _, _ => rfl
  | [], _ :: _, _, _, h => by simp [U8] at h
  | _ :: _, [], _, _, h => by simp [U8] at h
  | x :: xs, y :: ys, hx, hy, h => by
    simp only [U8, List.map_cons, List.cons.injEq] at h
    have h1 := hx x List.mem_cons_self
    have h2 := hy y List.mem_cons_self
    have e : x = y := by
      have h3 := congrArg UInt8.toNat h.1
      simp only [UInt8.toNat_ofNat'] at h3
      omega
    rw [e, U8_inj (fun z hz => hx z (List.mem_cons_of_mem _ hz)) (fun z hz => hy z (List.mem_cons_of_mem _ hz)) h.2]
theorem sn_beq {xs ys : List Int} (hx : Bytes xs) (hy : Bytes ys) : ((strOfNums xs).toList == (strOfNums ys).toList) = decide (xs = ys) := by
  rw [sn_toList, sn_toList]
  by_cases h : xs = ys
  · subst h; simp
  · rw [decide_eq_false h]; exact beq_eq_false_iff_ne.mpr fun e => h (U8_inj hx hy e)

theorem below_first {w : World} (o : Obj) : Below w.heap.size w (w.alloc o) := (Below.refl _ _).alloc (Nat.le_refl _) _

theorem b_drew {B : Nat} {w W : World} (h : Below B w W) : Below B w W.drew := ⟨h.os, h.tape, h.output, h.size, h.block⟩

theorem or192 (y : Int) (h0 : 0 ≤ y) (h1 : y < 32) : bits BinOp.or IntKind.u8 192 (IntKind.u8.wrap y) = 192 + y := by
  rw [wraps_u8 _ h0 (by omega), u8_or192 _ h0 h1]
theorem or224 (y : Int) (h0 : 0 ≤ y) (h1 : y < 16) : bits BinOp.or IntKind.u8 224 (IntKind.u8.wrap y) = 224 + y := by
  rw [wraps_u8 _ h0 (by omega), u8_or224 _ h0 h1]
theorem or240 (y : Int) (h0 : 0 ≤ y) (h1 : y < 8) : bits BinOp.or IntKind.u8 240 (IntKind.u8.wrap y) = 240 + y := by
  rw [wraps_u8 _ h0 (by omega), u8_or240 _ h0 h1]
end Go.Proofs.Ytlmdghafiadgjaa
