/- The disk: New. -/
import Derived.Test.YtlmdghafiadgjaaDk8
import Derived.Test.YtlmdghafiadgjaaEv
import Derived.WideMake

namespace Go.Proofs.Ytlmdghafiadgjaa
open Go.RowKit Go.Proofs.YtlmdghafiadgjaaW.PrintWords
open Go.ChangeMaps (setBlock)

def newD (n : Int) : DS := ⟨n, fun _ => z256, [], false, 0, 0⟩
theorem z256_blk : Blk z256 := ⟨z256_len, fun x hx => by
  have := List.eq_of_mem_replicate (show x ∈ List.replicate 256 (0 : Int) from hx)
  omega⟩
set_option maxRecDepth 100000 in
set_option maxHeartbeats 1000000 in
theorem new_no (n : Int) (w : World) (h : n < 1 ∨ (1 ≤ n ∧ 65536 < n)) : Calls Try.prog 21 #[.int .i64 n] w fun e w' => e = .returned (.tuple #[.pointer none, .int .i64 1]) ∧ w = w' := by
  rcases h with h | ⟨h, h2⟩
  all_goals
    go_enter Try.func21, Try.ntmps21
    go_wp2
    go_ret2
    exact ⟨rfl, rfl⟩
set_option maxRecDepth 100000 in
set_option maxHeartbeats 1000000 in
attribute [local go_sem ↓] Go.run_makeMap_plain in
theorem new_yes (n : Int) (w : World) (h : 1 ≤ n) (h2 : n ≤ 65536) : Calls Try.prog 21 #[.int .i64 n] w fun e w' => ∃ b, e = .returned (.tuple #[.pointer (some ⟨b, 0, none⟩), .int .i64 0]) ∧ DiskAt w' b (newD n) (fun i => w.heap.size ≤ i ∧ i < w'.heap.size) ∧ Below w.heap.size w w' := by
  go_enter Try.func21, Try.ntmps21
  go_wp2
  go_ret2
  have hl := heap_alloc_last (w.alloc (.map #[] 0)) (.cells #[.int .i64 n, .map (some w.heap.size), .slice none 0 0, .bool false, .int .i64 0, .int .i64 0] 38)
  have hsz : (w.alloc (.map #[] 0)).heap.size = w.heap.size + 1 := by simp
  rw [hsz] at hl
  refine ⟨w.heap.size + 1, rfl, ⟨w.heap.size, .slice none 0 0, hl, ⟨fun _ => none, (MapI.fresh w).keep (heap_alloc_old _ _ (by simp)), fun k => rfl⟩, own_nil _ _ _ _, ?_, ⟨h, h2, fun _ => z256_blk, fun p hp => (List.not_mem_nil hp).elim⟩⟩, (below_first _).trans ((Below.refl _ _).alloc (by simp) _)⟩
  intro i
  simp only [World.size_alloc, Value.ownBlock]
  simp
  omega
end Go.Proofs.Ytlmdghafiadgjaa
