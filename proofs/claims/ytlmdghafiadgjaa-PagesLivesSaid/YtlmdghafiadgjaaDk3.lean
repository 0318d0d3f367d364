/- The disk: put. -/
import Derived.Test.YtlmdghafiadgjaaDk2
namespace Go.Proofs.Ytlmdghafiadgjaa
open Go.RowKit Go.Proofs.YtlmdghafiadgjaaW.PrintWords
open Go.ChangeMaps (setBlock)

theorem infoBlk : (Try.prog.info? 87).map (·.size) = some 256 := by kernel_rfl
theorem infoBlk' (xs : List Int) (h : xs.length = 256) : (Try.prog.info? 87).map (·.size) = some (nums .u8 xs).toArray.size := infoBlk.trans (by simp [nums, h])
theorem zero_blk (W : World) : (zeroValue 87).run Try.prog W = .ok (blk z256) W := by kernel_rfl
theorem eql_blk (W : World) (xs ys : List Int) (hx : xs.length = 256) (hy : ys.length = 256) : (Op.equalIn 10000 87 (.agg (nums .u8 xs).toArray) (.agg (nums .u8 ys).toArray)).run Try.prog W = .ok (decide (xs = ys)) W := by
  obtain ⟨i, hi⟩ : ∃ i, Try.prog.info? 5 = some i := by
    have h := infoU8
    obtain ⟨j, hj, _⟩ := Option.map_eq_some_iff.1 h
    exact ⟨j, hj⟩
  exact eql_row W .u8 Try.underlying87 hi (by kernel_rfl) (by kernel_rfl) Try.underlying5 xs ys hx hy
theorem range_box (w : World) (xs : List Int) (t : TypeId) : (w.alloc (.cells (nums .u8 xs).toArray t)).rangeAt w.heap.size 0 (nums .u8 xs) := by
  have h := World.rangeAt_of_block (heap_alloc_new w (.cells (nums .u8 xs).toArray t)) 0 (nums .u8 xs).length
  have e : ((nums .u8 xs).toArray.extract 0 (0 + (nums .u8 xs).length)).toList = nums .u8 xs := by simp
  rwa [e] at h
theorem setBlock_other (W : World) (r i : Nat) (o : Obj) (h : i ≠ r) : (setBlock W r o).heap[i]? = W.heap[i]? := by simp [setBlock, Ne.symm h]
theorem cell_heap {w w' : World} {b i : Nat} (h : w'.heap[b]? = w.heap[b]?) : w'.cell? ⟨b, i, none⟩ = w.cell? ⟨b, i, none⟩ := by simp [World.cell?, h]
theorem range_heap {w w' : World} {b o : Nat} {cs : List Value} (h : w.rangeAt b o cs) (hb : w'.heap[b]? = w.heap[b]?) : w'.rangeAt b o cs := fun j v hv => (cell_heap hb).trans (h j v hv)
/-- The disk whose map, in block r, has turned. -/
theorem DiskAt.surely {w w' : World} {b r : Nat} {v : Value} {D : DS} {fs : Nat → Prop} {F0 F' : Int → Option Value} {S' : Int → List Int}
    (hb : w.heap[b]? = some (.cells #[.int .i64 D.size, .map (some r), v, .bool D.planned, .int .i64 D.after, .int .i64 D.err] 38 (0, 0))) (hp : PendAt w v D.pend) (hf : ∀ i, fs i ↔ i = b ∨ i = r ∨ v.ownBlock = some i) (ho : D.Ok)
    (hm : MapI w r F0) (hm' : MapI w' r F') (hF : ∀ k, (F' k).getD (blk z256) = blk (S' k)) (hS : ∀ k, Blk (S' k)) (hk : ∀ i, i < w.heap.size → i ≠ r → w'.heap[i]? = w.heap[i]?) : DkV w' b r v { D with sure := S' } fs := by
  have hrb : b ≠ r := fun e => by
    subst e
    obtain ⟨es, cl, l, hx, _⟩ := hm
    rw [hb] at hx; cases hx
  have hvb : ∀ g, v.ownBlock = some g → g ≠ r := fun g hg e => by
    subst e
    obtain ⟨es, cl, l, hx, _⟩ := hm
    rcases hp.2 with ⟨rfl, _⟩ | ⟨g', cap, cur, rfl, _, hh, _⟩
    · cases hg
    · cases hg
      rw [hh] at hx; cases hx
  exact ⟨(hk b (blk_lt hb) hrb).trans hb, ⟨F', hm', hF⟩, own_keep hp (fun g hg => hk g (own_lt hp g hg) (hvb g hg)), hf, ⟨ho.pos, ho.max, hS, ho.pend⟩⟩
def updS (S : Int → List Int) (i : Int) (xs : List Int) : Int → List Int := fun k => if k = i then xs else S k
set_option maxRecDepth 100000 in
set_option maxHeartbeats 1000000 in
theorem put_v (b r : Nat) (v : Value) (D : DS) (fs : Nat → Prop) (i : Int) (xs : List Int) (w : World) (h : DkV w b r v D fs) (hx : Blk xs) :
    Calls Try.prog 52 #[.pointer (some ⟨b, 0, none⟩), .int .i64 i, .agg (nums .u8 xs).toArray] w fun e w' => e = .returned (.tuple #[]) ∧ DkV w' b r v { D with sure := updS D.sure i xs } fs ∧ Frame fs w w' := by
  obtain ⟨hb, ⟨F, hm, hF⟩, hp, hf, ho⟩ := h
  have hl := hx.1
  have hz := zero_blk
  unfold blk at hz
  have heq := fun W => eql_blk W xs z256 hl z256_len
  have c1 : w.cell? ⟨b, 1, none⟩ = some (.map (some r)) := (blk_cell hb 1).trans rfl
  have c1' : (w.alloc (.cells (nums .u8 xs).toArray 87)).cell? ⟨b, 1, none⟩ = some (.map (some r)) := pw_cell_below (below_first _) c1
  have hrg := range_box w xs 87
  have hu := Try.underlying87
  have hi := infoBlk' xs hl
  have HM1 : Hid (MapI (w.alloc (.cells (nums .u8 xs).toArray 87)) r F) := Lib.hid (hm.keep (heap_alloc_old _ _ hm.lt))
  have hbr : b ≠ r := fun e => by
    subst e
    obtain ⟨es, cl, l, hx, _⟩ := hm
    rw [hb] at hx; cases hx
  have hwr : w.heap.size ≠ r := fun e => by have := hm.lt; omega
  have HF1 : Hid (Frame fs w (w.alloc (.cells (nums .u8 xs).toArray 87))) := Lib.hid ((Frame.refl _ _).alloc _)
  have hS : ∀ k, Blk (updS D.sure i xs k) := fun k => by unfold updS; split; exact hx; exact ho.sure k
  have HFIN : Hid (∀ (W : World) (F' : Int → Option Value), (∀ j, j < w.heap.size → j ≠ r → W.heap[j]? = w.heap[j]?) → MapI W r F' → (∀ k, (F' k).getD (blk z256) = blk (updS D.sure i xs k)) → DkV W b r v { D with sure := updS D.sure i xs } fs) := Lib.hid (fun W F' e h1 h2 => DiskAt.surely hb hp hf ho hm h1 h2 hS e)
  have HFR : Hid (∀ (o : Obj), Frame fs w (setBlock (w.alloc (.cells (nums .u8 xs).toArray 87)) r o)) := Lib.hid (fun o => HF1.out.setBlock_ (.inl ((hf r).2 (.inr (.inl rfl)))) o)
  have HF0 := Lib.hid hF
  clear hm hp hf ho hF hS hb
  by_cases hz0 : xs = z256
  · obtain ⟨o, hrun, hM2⟩ := MapI.delete (t := 35) (P := Try.prog) HM1.out Try.underlying35 Try.underlying3 i 0
    have HR := Lib.hid hM2
    have d1 : decide (xs = z256) = true := decide_eq_true hz0
    have HZ := Lib.hid hz0
    clear hz0 hM2
    go_enter Try.func52, Try.ntmps52
    go_wp2_with (first
      | (refine wpList_load_row (o := ⟨some 6, _, _, _, _, _⟩) rfl 87 (.tmp 5) rfl w.heap.size (by rfl) 87 (nums .u8 xs).toArray (0, 0) _ (heap_alloc_new _ _) Try.underlying87 rfl (infoBlk' xs hl) ?_))
    refine bodyPost_ret (v := .tuple #[]) (results_none (by rfl) _ _ _) rfl ?_
    refine ⟨rfl, HFIN.out _ _ (fun j hj hne => (setBlock_other _ _ _ _ hne).trans (heap_alloc_old _ _ hj)) HR.out (fun k => ?_), HFR.out o⟩
    by_cases hk : k = i
    · rw [updS, if_pos hk, HZ.out, if_pos hk]; rfl
    · rw [updS, if_neg hk, if_neg hk]; exact HF0.out k
  · obtain ⟨o, hrun, hM2⟩ := MapI.update (t := 35) (P := Try.prog) (w := (w.alloc (.cells (nums .u8 xs).toArray 87)).drew) HM1.out Try.underlying35 Try.underlying3 i (.agg (nums .u8 xs).toArray)
    have HR := Lib.hid hM2
    have KC : Hid ((setBlock (w.alloc (.cells (nums .u8 xs).toArray 87)).drew r o).cell? ⟨b, 1, none⟩ = some (.map (some r))) := Lib.hid ((cell_heap (setBlock_other _ _ _ _ hbr)).trans c1')
    have KR : Hid ((setBlock (w.alloc (.cells (nums .u8 xs).toArray 87)).drew r o).rangeAt w.heap.size 0 (nums .u8 xs)) := Lib.hid (range_heap hrg (setBlock_other _ _ _ _ hwr))
    have d1 : decide (xs = z256) = false := decide_eq_false hz0
    clear hz0 hM2
    go_enter Try.func52, Try.ntmps52
    go_wp2_with (first
      | (refine wpList_load_row (o := ⟨some 6, _, _, _, _, _⟩) rfl 87 (.tmp 5) rfl w.heap.size (by rfl) 87 (nums .u8 xs).toArray (0, 0) _ (heap_alloc_new _ _) Try.underlying87 rfl (infoBlk' xs hl) ?_))
    go_region_held3 (fun w' => w'.cell? ⟨b, 1, none⟩ = some (.map (some r)) ∧ w'.rangeAt w.heap.size 0 (nums .u8 xs)) (first | go_keep_ranges | exact ⟨KC.out, KR.out⟩) (fail)
    go_wp2
    go_end0
    refine ⟨rfl, HFIN.out _ _ (fun j hj hne => (setBlock_other _ _ _ _ hne).trans (heap_alloc_old _ _ hj)) HR.out (fun k => ?_), (HFR.out o).drew⟩
    by_cases hk : k = i
    · rw [updS, if_pos hk, if_pos hk]; rfl
    · rw [updS, if_neg hk, if_neg hk]; exact HF0.out k
theorem put_any (b : Nat) (D : DS) (fs : Nat → Prop) (i : Int) (xs : List Int) (w : World) (h : DiskAt w b D fs) (hx : Blk xs) :
    Calls Try.prog 52 #[.pointer (some ⟨b, 0, none⟩), .int .i64 i, .agg (nums .u8 xs).toArray] w fun e w' => e = .returned (.tuple #[]) ∧ DiskAt w' b { D with sure := updS D.sure i xs } fs ∧ Frame fs w w' := by
  obtain ⟨r, v, hd⟩ := h
  exact (put_v b r v D fs i xs w hd hx).mono fun e w' ⟨h1, h2, h3⟩ => ⟨h1, ⟨r, v, h2⟩, h3⟩
end Go.Proofs.Ytlmdghafiadgjaa
