/- The document's pages: its store in memory; Load, put. -/
import Derived.Test.YtlmdghafiadgjaaPgR4
import Derived.Test.YtlmdghafiadgjaaRdE
import Derived.Test.YtlmdghafiadgjaaPg12
namespace Go.Proofs.Ytlmdghafiadgjaa
set_option maxRecDepth 100000
set_option linter.unusedVariables false
set_option linter.unusedSimpArgs false
open Go.RowKit Go.Proofs.YtlmdghafiadgjaaW.PrintWords Go.Proofs.YtlmdghafiadgjaaW.PrintLast

def rloadK (R : RS) (n : Int) : Nat → List Int
  | 0 => []
  | k + 1 => rloadK R n k ++ nowR R (4 * n + (k : Int))
def rloadV (R : RS) (n : Int) : List Int := rloadK R n 4
theorem z256_blk_ : Blk z256 := ⟨z256_len, fun x hx => by
  have := List.eq_of_mem_replicate (show x ∈ List.replicate 256 (0 : Int) from hx)
  omega⟩
theorem RefAt.blks {w : World} {x : Nat} {R : RS} {gs : Nat → Prop} (h : RefAt w x R gs) : (∀ p ∈ R.sure, Blk p.2) ∧ ∀ p ∈ R.pend, Blk p.2 := by
  obtain ⟨vs, vp, es, ep, h, _⟩ := h
  rw [h.sure, h.pend]
  constructor
  · intro p hp
    obtain ⟨e, he, rfl⟩ := List.mem_map.1 hp
    exact (h.en e (by simp [he])).2
  · intro p hp
    obtain ⟨e, he, rfl⟩ := List.mem_map.1 hp
    exact (h.en e (by simp [he])).2
theorem nowR_blk {R : RS} (h : (∀ p ∈ R.sure, Blk p.2) ∧ ∀ p ∈ R.pend, Blk p.2) (i : Int) : Blk (nowR R i) := nowP_blk h.2 i _ (nowP_blk h.1 i _ z256_blk_)
theorem rloadK_len {R : RS} (h : (∀ p ∈ R.sure, Blk p.2) ∧ ∀ p ∈ R.pend, Blk p.2) (n : Int) : ∀ k, (rloadK R n k).length = 256 * k
  | 0 => rfl
  | k + 1 => by
    simp only [rloadK, List.length_append, rloadK_len h n k, (nowR_blk h _).1]; omega
theorem rloadK_bytes {R : RS} (h : (∀ p ∈ R.sure, Blk p.2) ∧ ∀ p ∈ R.pend, Blk p.2) (n : Int) : ∀ k, Bytes (rloadK R n k)
  | 0 => fun x hx => (List.not_mem_nil hx).elim
  | k + 1 => (rloadK_bytes h n k).append (nowR_blk h _).2
theorem now_ref {x : Nat} {R : RS} {gs : Nat → Prop} {w : World} (h : RefAt w x R gs) (i : Int) :
    Calls Try.prog 58 #[.pointer (some ⟨x, 0, none⟩), .int .i64 i] w fun e w' => ∃ v, e = .returned v ∧ ORow .u8 5 w' w.heap.size v (nowR R i) ∧ Below w.heap.size w w' := by
  obtain ⟨vs, vp, es, ep, h, _⟩ := h
  exact now_any h i
set_option maxHeartbeats 2000000 in
theorem rload_any {x : Nat} {R : RS} {gs : Nat → Prop} {w : World} (h : RefAt w x R gs) (n : Int) (hn : 0 ≤ n) (hn2 : n ≤ 20000) :
    Calls Try.prog 48 #[.pointer (some ⟨x, 0, none⟩), .int .i64 n] w fun e w' => ∃ v, e = .returned v ∧ ORow .u8 5 w' w.heap.size v (rloadV R n) ∧ Below w.heap.size w w' := by
  have HD := Lib.hid h
  have HO := Lib.hid h.blks
  have hw4 : wrap64 (4 * n) = 4 * n := wrap64_id _ (by omega) (by omega)
  clear h
  go_enter Try.func48, Try.ntmps48
  go_wp2
  go_loopw [5, 6] (fun s5 s6 wr => ∃ k : Nat, k ≤ 4 ∧ s6 = .int .i64 k ∧ Hid (ORow .u8 5 wr w.heap.size s5 (rloadK R n k)) ∧ Hid (Below w.heap.size w wr)) (fun _ s6 _ => 4 - (intOf s6).toNat)
  case atStart => exact ⟨0, Nat.zero_le _, rfl, Lib.hid (ORow.nil _ _ _ _), Lib.hid (Below.refl _ _)⟩
  case round =>
    obtain ⟨k, hk, rfl, HR, HB⟩ := hrel
    by_cases hlt : k < 4
    · have hwk : wrap64 (4 * n + (k : Int)) = 4 * n + (k : Int) := wrap64_id _ (by omega) (by omega)
      have HRD := Lib.hid (now_ref (HD.out.below HB.out) (4 * n + (k : Int)))
      have HL1 : Hid ((rloadK R n k).length ≤ 1024) := Lib.hid (by have := rloadK_len HO.out n k; omega)
      have HL2 : Hid ((nowR R (4 * n + (k : Int))).length = 256) := Lib.hid (nowR_blk HO.out _).1
      have HNX : Hid (rloadK R n (k + 1) = rloadK R n k ++ nowR R (4 * n + (k : Int))) := Lib.hid rfl
      generalize nowR R (4 * n + (k : Int)) = row at *
      generalize rloadK R n k = acc at *
      go_wp2_with (first
        | (go_at_call 58; ((with_reducible refine HRD.out.mono ?_); rintro e w1 ⟨v1, rfl, hO1, hB1⟩; obtain ⟨A1, c1, rfl, hc1, hr1⟩ := hO1.reads; have HB1 := Lib.hid (below_then HB.out HB.out.size hB1); have HR1 := Lib.hid (HR.out.below (hB1)); have HX1 := Lib.hid hr1; clear hO1 hB1 hr1))
        | (at_builtin; refine print_append_row (w0 := w) w.heap.size rfl (.tmp 11) (.tmp 17) 23 5 .u8 1 rfl Try.underlying23 infoU8 (by decide) _ acc row _ _ _ rfl rfl HR1.out HX1.out HB1.out HB1.out.size (by have h1 := HL1.out; have h2 := HL2.out; omega) ?_; intro v4 w4 hO4 hb4 _ _; have HO4 := Lib.hid hO4; have HW4 := Lib.hid hb4; clear hO4 hb4))
      go_roundw
      case rel => exact ⟨k + 1, hlt, by go_num, Lib.hid (by rw [HNX.out]; exact HO4.out), HW4⟩
      case measure => simp [intOf]; omega
    · obtain rfl : k = 4 := by omega
      go_wp2
      go_ret
      exact ⟨_, rfl, HR.out, HB.out⟩
/-- The document's store in block y over the document's disk in block x (whose blocks are gs). -/
def RStoreAt (w : World) (y x : Nat) (T : Int) (R : List Int) (B : Bool) (gs : Nat → Prop) : Prop :=
  ∃ v, w.heap[y]? = some (.cells #[.pointer (some ⟨x, 0, none⟩), .int .u64 T, v, .bool B] 65 (0, 0)) ∧ ORow .u8 5 w 0 v R ∧ ¬ gs y ∧ (∀ g, v.ownBlock = some g → g ≠ y ∧ ¬ gs g)
theorem RStoreAt.lt {w : World} {y x : Nat} {T : Int} {R : List Int} {B : Bool} {gs : Nat → Prop} (h : RStoreAt w y x T R B gs) : y < w.heap.size := by
  obtain ⟨v, h1, _⟩ := h
  exact blk_lt h1
theorem RStoreAt.cells {w : World} {y x : Nat} {T : Int} {R : List Int} {B : Bool} {gs : Nat → Prop} (h : RStoreAt w y x T R B gs) : w.cell? ⟨y, 0, none⟩ = some (.pointer (some ⟨x, 0, none⟩)) ∧ w.cell? ⟨y, 1, none⟩ = some (.int .u64 T) ∧ w.cell? ⟨y, 3, none⟩ = some (.bool B) := by
  obtain ⟨v, h1, _⟩ := h
  exact ⟨(blk_cell h1 0).trans rfl, (blk_cell h1 1).trans rfl, (blk_cell h1 3).trans rfl⟩
theorem RStoreAt.eff {w w' : World} {y x : Nat} {T : Int} {R : List Int} {B : Bool} {fs gs ks : Nat → Prop} (h : RStoreAt w y x T R B fs) (hf : Frame ks w w') (hk : ∀ i, ks i → fs i ∨ w.heap.size ≤ i) (hg : ∀ i, gs i → fs i ∨ w.heap.size ≤ i) : RStoreAt w' y x T R B gs := by
  obtain ⟨v, h1, h2, h3, h4⟩ := h
  have hp := blk_lt h1
  have hn : ∀ i, i < w.heap.size → ¬ fs i → ¬ ks i := fun i hi hnf hki => (hk i hki).elim hnf (fun h => by omega)
  have hm : ∀ i, i < w.heap.size → ¬ fs i → ¬ gs i := fun i hi hnf hki => (hg i hki).elim hnf (fun h => by omega)
  refine ⟨v, (hf.block y hp (hn y hp h3)).trans h1, own_keep h2 (fun g hg => hf.block g (own_lt h2 g hg) (hn g (own_lt h2 g hg) (h4 g hg).2)), hm y hp h3, fun g hg => ⟨(h4 g hg).1, hm g (own_lt h2 g hg) (h4 g hg).2⟩⟩
theorem RStoreAt.below {w w' : World} {y x : Nat} {T : Int} {R : List Int} {B : Bool} {fs : Nat → Prop} (h : RStoreAt w y x T R B fs) (hb : Below w.heap.size w w') : RStoreAt w' y x T R B fs :=
  h.eff (ks := fs) (Below.frame_ hb) (fun _ h => .inl h) (fun _ h => .inl h)
/-- What becomes of the document's store and of its disk. -/
def EffR (w : World) (y x : Nat) (gs : Nat → Prop) (R' : RS) (T' : Int) (r' : List Int) (B' : Bool) (w' : World) : Prop :=
  ∃ gs', RefAt w' x R' gs' ∧ RStoreAt w' y x T' r' B' gs' ∧ Frame (fun i => gs i ∨ i = y) w w' ∧ (∀ i, gs' i → gs i ∨ w.heap.size ≤ i) ∧ RootFrom w w' y
theorem EffR.refl {w : World} {y x : Nat} {gs : Nat → Prop} {R : RS} {T : Int} {r : List Int} {B : Bool} (h : RefAt w x R gs) (k : RStoreAt w y x T r B gs) : EffR w y x gs R T r B w := ⟨gs, h, k, Frame.refl _ _, fun _ h => .inl h, RootFrom.refl _ _⟩
theorem EffR.below {w w' : World} {y x : Nat} {gs : Nat → Prop} {R : RS} {T : Int} {r : List Int} {B : Bool} (h : RefAt w x R gs) (k : RStoreAt w y x T r B gs) (hb : Below w.heap.size w w') : EffR w y x gs R T r B w' := ⟨gs, h.below hb, k.below hb, Below.frame_ hb, fun _ h => .inl h, RootFrom.same (hb.block y k.lt)⟩
theorem EffR.of {w w' : World} {y x : Nat} {gs : Nat → Prop} {R' : RS} {T : Int} {r : List Int} {B : Bool} (k : RStoreAt w y x T r B gs) (h : REff w x gs R' w') : EffR w y x gs R' T r B w' := by
  obtain ⟨gs', h1, h2, h3⟩ := h
  exact ⟨gs', h1, k.eff h2 (fun _ h => .inl h) h3, h2.mono (fun _ h => .inl h), h3, RootFrom.same (h2.block y k.lt (by obtain ⟨_, _, _, h9, _⟩ := k; exact h9))⟩
theorem EffR.join {w w1 w2 : World} {y x : Nat} {fs gs : Nat → Prop} {D' : RS} {T' : Int} {R' : List Int} {B' : Bool} (h3 : Frame (fun i => fs i ∨ i = y) w w1) (h4 : ∀ i, gs i → fs i ∨ w.heap.size ≤ i) (h5 : RootFrom w w1 y) (k : EffR w1 y x gs D' T' R' B' w2) : EffR w y x fs D' T' R' B' w2 := by
  obtain ⟨ks, k1, k2, k3, k4, k5⟩ := k
  exact ⟨ks, k1, k2, h3.trans k3 (fun i hi => hi.elim (fun h => (h4 i h).imp .inl id) (fun h => .inl (.inr h))), fun i hi => (k4 i hi).elim (h4 i) (fun h => .inr (Nat.le_trans h3.size h)), h5.trans k5 h3.size⟩
theorem RStoreAt.set3 {w : World} {y x : Nat} {T : Int} {R : List Int} {B : Bool} {gs : Nat → Prop} (h : RStoreAt w y x T R B gs) (u : Bool) : RStoreAt (w.setCell ⟨y, 3, none⟩ (.bool u)) y x T R u gs := by
  obtain ⟨v, h1, h2, h3, h4⟩ := h
  exact ⟨v, blk_set h1 3 (.bool u), own_keep h2 (fun g hg => Below.heap_setCell _ _ _ _ (h4 g hg).1), h3, h4⟩
theorem EffR.set3 {w w' : World} {y x : Nat} {gs : Nat → Prop} {R : RS} {T : Int} {r : List Int} {B : Bool} (h : EffR w y x gs R T r B w') (u : Bool) : EffR w y x gs R T r u (w'.setCell ⟨y, 3, none⟩ (.bool u)) := by
  obtain ⟨gs', h1, h2, h3, h4, h5⟩ := h
  have hn : ¬ gs' y := by obtain ⟨_, _, _, h, _⟩ := h2; exact h
  exact ⟨gs', h1.keep (fun i hi => Below.heap_setCell _ _ _ _ (fun e => hn (by have e2 : i = y := e; rw [← e2]; exact hi))), h2.set3 u, h3.setCell (.inl (.inr rfl)) _, h4, by obtain ⟨v, hv, _⟩ := h2; exact h5.set hv 3 (by decide) _⟩
theorem EffR.at_ {w w1 : World} {y x : Nat} {fs : Nat → Prop} {D : RS} {T : Int} {R : List Int} {B : Bool} (h : EffR w y x fs D T R B w1) :
    w1.cell? ⟨y, 0, none⟩ = some (.pointer (some ⟨x, 0, none⟩)) ∧ w1.cell? ⟨y, 1, none⟩ = some (.int .u64 T) ∧ (∃ v, w1.heap[y]? = some (.cells #[.pointer (some ⟨x, 0, none⟩), .int .u64 T, v, .bool B] 65 (0, 0))) ∧ y < w1.heap.size := by
  obtain ⟨gs, h1, h2, h3, h4⟩ := h
  obtain ⟨v, hv, _⟩ := id h2
  exact ⟨h2.cells.1, h2.cells.2.1, ⟨v, hv⟩, h2.lt⟩
end Go.Proofs.Ytlmdghafiadgjaa
