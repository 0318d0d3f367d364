/- The law DiskNobody. -/
import Derived.Test.YtfjeincceglfoaaDk15
namespace Go.Proofs.Ytfjeincceglfoaa
open Go.RowKit Go.Proofs.YtfjeincceglfoaaW.PrintWords

/-- The cells of a block, under a name that the walk does not open. -/
def rowAt (W : World) (g : Nat) : Option (Array Value) := match W.heap[g]? with
  | some (.cells cs _ _) => some cs
  | _ => none
theorem rowAt_of {W : World} {g : Nat} {cs : Array Value} {t : TypeId} {fr : Nat × Nat} (h : W.heap[g]? = some (.cells cs t fr)) : rowAt W g = some cs := by unfold rowAt; rw [h]
theorem load_op (d : Option Tmp) (x : Operand) (ty' : TypeId) (pos : String) (af : Array Edge) (gd : Option (Nat × Bool)) (ev : Operand → Value) (W : World) :
    (execOp ev ⟨d, .load 36 x, ty', pos, af, gd⟩).run Try.prog W = match ev x with
    | .pointer (some ⟨g, 0, none⟩) => (match rowAt W g with
      | some cs => if cs.size = 7 then .ok (.value (.agg cs)) W else loadElse ev ⟨d, .load 36 x, ty', pos, af, gd⟩ W
      | _ => loadElse ev ⟨d, .load 36 x, ty', pos, af, gd⟩ W)
    | _ => loadElse ev ⟨d, .load 36 x, ty', pos, af, gd⟩ W := by
  split
  · rename_i g hx
    split
    · rename_i cs h
      split
      · rename_i hs
        have hi : (Try.prog.info? 36).map (·.size) = some cs.size := by rw [hs]; kernel_rfl
        obtain ⟨t, fr, hh⟩ : ∃ t fr, W.heap[g]? = some (.cells cs t fr) := by
          unfold rowAt at h
          split at h
          · rename_i t fr hh
            injection h with h
            subst h
            exact ⟨_, _, hh⟩
          · cases h
        unfold execOp
        simp only [hx, Instr.loadAt, Instr.sureAddr, Sem.run_bind, Sem.run_pure, Result.andThen_ok, run_loadVar_row W g t 36 cs fr _ hh Try.underlying36 rfl hi]
      · rfl
    · rfl
  · rfl
theorem nodisk_below {w w' : World} {p : Value} (h : NoDisk w p) (hB : Below w.heap.size w w') : NoDisk w' p := by
  rcases h with rfl | ⟨b, rfl, hc⟩
  · exact .inl rfl
  · exact .inr ⟨b, rfl, pw_cell_below hB hc⟩
theorem call_no7 (p : Value) (k a n t f : Int) (bad : Bool) (e : Int) (w : World) (h : NoDisk w p) (hk : 0 ≤ k ∧ k ≤ 4) : Calls Try.prog 15 #[p, .agg #[.int .i64 k, .int .i64 a, .int .i64 n, .int .i64 t, .int .u8 f, .bool bad, .int .i64 e]] w fun e w' => e = .returned (.int .i64 6) ∧ Below w.heap.size w w' := call_no p ⟨k, a, n, t, f, bad, e⟩ w h hk
attribute [local go_sem ↓] load_op
set_option maxRecDepth 100000 in
set_option maxHeartbeats 4000000 in
theorem nobody_walk (k a n t f : Int) (bad : Bool) (e : Int) (w : World) :
    Calls Try.prog 6 #[.agg #[.int .i64 k, .int .i64 a, .int .i64 n, .int .i64 t, .int .u8 f, .bool bad, .int .i64 e]] w fun e w' => e = .returned (.bool true) ∧ Below w.heap.size w w' := by
  have hcase : k < 0 ∨ (0 ≤ k ∧ 4 < k) ∨ (0 ≤ k ∧ k ≤ 4) := by omega
  have HNO := Lib.hid (fun W => call_no7 (.pointer none) k a n t f bad e W (.inl rfl))
  have HND : Hid (∀ W, NoDisk W (.pointer none)) := Lib.hid (fun W => .inl rfl)
  have hl := heap_alloc_last (w.alloc (.cells #[.int .i64 k, .int .i64 a, .int .i64 n, .int .i64 t, .int .u8 f, .bool bad, .int .i64 e] 36)) (.cells #[.int .i64 0, .map none, .slice none 0 0, .bool false, .int .i64 0, .int .i64 0] 54)
  rw [show (w.alloc (.cells #[.int .i64 k, .int .i64 a, .int .i64 n, .int .i64 t, .int .u8 f, .bool bad, .int .i64 e] 36)).heap.size = w.heap.size + 1 from by simp] at hl
  have HNU : Hid (∀ W, Below ((w.alloc (.cells #[.int .i64 k, .int .i64 a, .int .i64 n, .int .i64 t, .int .u8 f, .bool bad, .int .i64 e] 36)).alloc (.cells #[.int .i64 0, .map none, .slice none 0 0, .bool false, .int .i64 0, .int .i64 0] 54)).heap.size ((w.alloc (.cells #[.int .i64 k, .int .i64 a, .int .i64 n, .int .i64 t, .int .u8 f, .bool bad, .int .i64 e] 36)).alloc (.cells #[.int .i64 0, .map none, .slice none 0 0, .bool false, .int .i64 0, .int .i64 0] 54)) W → NoDisk W (.pointer (some ⟨w.heap.size + 1, 0, none⟩))) := Lib.hid (fun W hB => .inr ⟨_, rfl, pw_cell_below hB ((blk_cell hl 0).trans rfl)⟩)
  have hb2 : ((w.alloc (.cells #[.int .i64 k, .int .i64 a, .int .i64 n, .int .i64 t, .int .u8 f, .bool bad, .int .i64 e] 36)).alloc (.cells #[.int .i64 0, .map none, .slice none 0 0, .bool false, .int .i64 0, .int .i64 0] 54)).heap[w.heap.size]? = some (.cells #[.int .i64 k, .int .i64 a, .int .i64 n, .int .i64 t, .int .u8 f, .bool bad, .int .i64 e] 36) := (heap_alloc_old _ _ (by simp)).trans (heap_alloc_last w _)
  have HBX := Lib.hid hb2
  replace hb2 := rowAt_of hb2
  have HW2 : Hid (Below w.heap.size w ((w.alloc (.cells #[.int .i64 k, .int .i64 a, .int .i64 n, .int .i64 t, .int .u8 f, .bool bad, .int .i64 e] 36)).alloc (.cells #[.int .i64 0, .map none, .slice none 0 0, .bool false, .int .i64 0, .int .i64 0] 54))) := Lib.hid (below_alloc (below_first _) _)
  clear hl
  rcases hcase with h | ⟨h, h2⟩ | ⟨h, h2⟩
  all_goals
    go_enter Try.func6, Try.ntmps6
    go_wp2_with (first
      | (go_at_call 14; ((with_reducible refine (read_no _ a _ (HND.out _)).mono ?_); rintro e1 w1 ⟨rfl, rfl⟩))
      | (go_at_call 14; ((with_reducible refine (read_no _ a _ (HNU.out _ (Below.refl _ _))).mono ?_); rintro e1 w1 ⟨rfl, rfl⟩))
      | (go_at_call 15; ((with_reducible refine (HNO.out _ ⟨h, h2⟩).mono ?_); rintro e1 w1 ⟨rfl, hB⟩; have hb3 := rowAt_of (blk_below HBX.out hB); have HB1 := Lib.hid hB; clear hB))
      | (go_at_call 15; ((with_reducible refine (call_no7 _ k a n t f bad e _ (HNU.out _ HB1.out) ⟨h, h2⟩).mono ?_); rintro e2 w2 ⟨rfl, hB⟩; have HB2 := Lib.hid (below_then HB1.out HB1.out.size hB); clear hB))
      | (go_at_call 10; ((with_reducible refine (alive_any _).mono ?_); rintro e3 w3 ⟨rfl, hB⟩; have HB4 := Lib.hid (below_then HB2.out HB2.out.size hB); clear hB))
      | (go_at_call 10; ((with_reducible refine (alive_any _).mono ?_); rintro e3 w3 ⟨rfl, hB⟩; have HB4 := Lib.hid hB; clear hB))
      | (go_at_call 21; ((with_reducible refine (size_no _ _ (HND.out _)).mono ?_); rintro e1 w1 ⟨rfl, rfl⟩))
      | (go_at_call 21; ((with_reducible refine (size_no _ _ (HNU.out _ HB4.out)).mono ?_); rintro e1 w1 ⟨rfl, rfl⟩))
      | (go_at_call 20; ((with_reducible refine (pending_no _ _ (HND.out _)).mono ?_); rintro e1 w1 ⟨rfl, rfl⟩))
      | (go_at_call 20; ((with_reducible refine (pending_no _ _ (HNU.out _ HB4.out)).mono ?_); rintro e1 w1 ⟨rfl, rfl⟩)))
    go_ret
    exact ⟨rfl, below_step HW2.out HB4.out⟩
theorem nobody_law (o : OpV) (w : World) (_ : o.Ok) : Calls Try.prog 6 #[.agg o.cells] w fun e w' => e = .returned (.bool true) ∧ Below w.heap.size w w' := by
  obtain ⟨k, a, n, t, f, bad, e⟩ := o
  exact nobody_walk k a n t f bad e w
end Go.Proofs.Ytfjeincceglfoaa
