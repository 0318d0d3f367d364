/- The disk: New; what the statements' own functions do with one: Bytes, Call. -/
import Derived.Test.YtfjeincceglfoaaDk8
import Derived.Test.YtfjeincceglfoaaEv
import Derived.Test.YtfjeincceglfoaaDkB
import Derived.WideMake

namespace Go.Proofs.Ytfjeincceglfoaa
open Go.RowKit Go.Proofs.YtfjeincceglfoaaW.PrintWords
open Go.ChangeMaps (setBlock)

def newD (n : Int) : DS := ⟨n, fun _ => z256, [], false, 0, 0⟩
theorem z256_blk : Blk z256 := ⟨z256_len, fun x hx => by
  have := List.eq_of_mem_replicate (show x ∈ List.replicate 256 (0 : Int) from hx)
  omega⟩
set_option maxRecDepth 100000 in
set_option maxHeartbeats 1000000 in
theorem new_no (n : Int) (w : World) (h : n < 1 ∨ (1 ≤ n ∧ 65536 < n)) : Calls Try.prog 17 #[.int .i64 n] w fun e w' => e = .returned (.tuple #[.pointer none, .int .i64 1]) ∧ w = w' := by
  rcases h with h | ⟨h, h2⟩
  all_goals
    go_enter Try.func17, Try.ntmps17
    go_wp2
    go_ret2
    exact ⟨rfl, rfl⟩
set_option maxRecDepth 100000 in
set_option maxHeartbeats 1000000 in
attribute [local go_sem ↓] Go.run_makeMap_plain in
theorem new_yes (n : Int) (w : World) (h : 1 ≤ n) (h2 : n ≤ 65536) : Calls Try.prog 17 #[.int .i64 n] w fun e w' => ∃ b, e = .returned (.tuple #[.pointer (some ⟨b, 0, none⟩), .int .i64 0]) ∧ DiskAt w' b (newD n) (fun i => w.heap.size ≤ i ∧ i < w'.heap.size) ∧ Below w.heap.size w w' := by
  go_enter Try.func17, Try.ntmps17
  go_wp2
  go_ret2
  have hl := heap_alloc_last (w.alloc (.map #[] 0)) (.cells #[.int .i64 n, .map (some w.heap.size), .slice none 0 0, .bool false, .int .i64 0, .int .i64 0] 54)
  have hsz : (w.alloc (.map #[] 0)).heap.size = w.heap.size + 1 := by simp
  rw [hsz] at hl
  refine ⟨w.heap.size + 1, rfl, ⟨w.heap.size, .slice none 0 0, hl, ⟨fun _ => none, (MapI.fresh w).keep (heap_alloc_old _ _ (by simp)), fun k => rfl⟩, own_nil _ _ _ _, ?_, ⟨h, h2, fun _ => z256_blk, fun p hp => (List.not_mem_nil hp).elim⟩⟩, (below_first _).trans ((Below.refl _ _).alloc (by simp) _)⟩
  intro i
  simp only [World.size_alloc, Value.ownBlock]
  simp
  omega
def bytesV (fill : Int) (bad : Bool) : List Int := ((List.range 256).map fun (i : Nat) => (fill + ((i : Nat) : Int)) % 256) ++ if bad then [1] else []
theorem bytesV_bytes (fill : Int) (bad : Bool) : Bytes (bytesV fill bad) := by
  intro x hx
  rcases List.mem_append.1 hx with hx | hx
  · obtain ⟨i, _, rfl⟩ := List.mem_map.1 hx
    omega
  · cases bad
    · cases hx
    · simp at hx; omega
theorem bytesV_len (fill : Int) (bad : Bool) : (bytesV fill bad).length = if bad then 257 else 256 := by
  cases bad <;> simp [bytesV]
theorem bytes_loop (a b c d f : Int) (bad : Bool) (e : Int) (m : Nat) : ∀ (j : Nat), j + m = 256 →
    Ev (fun k => DiskB.posthornlaw28_Bytes.l0 k ((List.range j).map fun (i : Nat) => (f + (i : Int)) % 256) (j : Int) a b c d f bad e) (bytesV f bad) := by
  induction m with
  | zero =>
    intro j hj
    obtain rfl : j = 256 := by omega
    refine Ev.step (by intro k; rw [DiskB.posthornlaw28_Bytes.l0]) ?_
    refine Ev.neg (by omega) ?_
    cases bad
    · refine Ev.neg (by decide) ?_
      rw [show bytesV f false = (List.range 256).map (fun (i : Nat) => (f + (i : Int)) % 256) from by simp [bytesV]]
      exact Ev.done _
    · refine Ev.pos rfl ?_
      refine Ev.pos (by simp) ?_
      exact Ev.done _
  | succ m ih =>
    intro j hj
    refine Ev.step (by intro k; rw [DiskB.posthornlaw28_Bytes.l0]) ?_
    refine Ev.pos (by omega) ?_
    refine Ev.pos (by simp; omega) ?_
    rw [wrap64_id _ (by omega) (by omega)]
    have h9 := ih (j + 1) (by omega)
    rw [List.range_succ, List.map_append] at h9
    simp only [List.map_cons, List.map_nil] at h9
    exact h9
theorem bytes_any (a b c d f : Int) (bad : Bool) (e : Int) (w : World) : Calls Try.prog 16 #[.agg #[.int .i64 a, .int .i64 b, .int .i64 c, .int .i64 d, .int .u8 f, .bool bad, .int .i64 e]] w fun e w' => ∃ v, e = .returned v ∧ ORow .u8 5 w' w.heap.size v (bytesV f bad) ∧ Below w.heap.size w w' := by
  obtain ⟨k, hk⟩ := (bytes_loop a b c d f bad e 256 0 (by omega)).get
  refine (DiskB.posthornlaw28_Bytes.calls k a b c d f bad e _ w hk).mono ?_
  rintro e w1 ⟨v, rfl, hR, hB⟩
  exact ⟨v, rfl, Go.Proofs.YtfjeincceglfoaaW.PrintWords.Kd.own_of_R hR, hB⟩
end Go.Proofs.Ytfjeincceglfoaa
