/- The law PagesNobody. -/
import Derived.Test.YtlmdghafiadgjaaPgB
namespace Go.Proofs.Ytlmdghafiadgjaa
set_option linter.unusedVariables false
set_option linter.unusedSimpArgs false
open Go.RowKit Go.Proofs.YtlmdghafiadgjaaW.PrintWords Go.Proofs.YtlmdghafiadgjaaW.PrintLast

set_option maxRecDepth 100000 in
set_option maxHeartbeats 1000000 in
theorem nobody_great (n k : Int) (A : Option Addr) (m c : Nat) (w : World) (hm : m ≤ 9223372036854775807) (h : 1200 < m) :
    Calls Try.prog 4 #[.int .i64 n, .int .u8 k, .slice A m c] w fun e w' => e = .returned (.bool true) ∧ Below w.heap.size w w' := by
  go_enter Try.func4, Try.ntmps4
  go_wp2_with (first | (go_at_call 9; ((with_reducible refine (alive_any _).mono ?_); rintro e3 w3 ⟨rfl, hB⟩; have HB4 := Lib.hid hB; clear hB)))
  go_ret
  exact ⟨rfl, HB4.out⟩
set_option maxRecDepth 100000 in
set_option maxHeartbeats 4000000 in
theorem nobody_small (n k : Int) (A : Option Addr) (m c : Nat) (w : World) (h : m ≤ 1200) :
    Calls Try.prog 4 #[.int .i64 n, .int .u8 k, .slice A m c] w fun e w' => e = .returned (.bool true) ∧ Below w.heap.size w w' := by
  have HNS : Hid (∀ W, NoStore W (.pointer none)) := Lib.hid (fun W => .inl rfl)
  have HND : Hid (∀ W, NoDisk W (.pointer none)) := Lib.hid (fun W => .inl rfl)
  have hl1 : ((w.alloc (.cells #[.pointer none, .int .u64 0, .slice none 0 0, .bool false] 34)).alloc (.cells #[.int .i64 0, .map none, .slice none 0 0, .bool false, .int .i64 0, .int .i64 0] 38)).heap[w.heap.size]? = some (.cells #[.pointer none, .int .u64 0, .slice none 0 0, .bool false] 34) := (heap_alloc_old _ _ (by simp)).trans (heap_alloc_last w _)
  have hl2 := heap_alloc_last (w.alloc (.cells #[.pointer none, .int .u64 0, .slice none 0 0, .bool false] 34)) (.cells #[.int .i64 0, .map none, .slice none 0 0, .bool false, .int .i64 0, .int .i64 0] 38)
  rw [show (w.alloc (.cells #[.pointer none, .int .u64 0, .slice none 0 0, .bool false] 34)).heap.size = w.heap.size + 1 from by simp] at hl2
  have HW2 : Hid (Below w.heap.size w ((w.alloc (.cells #[.pointer none, .int .u64 0, .slice none 0 0, .bool false] 34)).alloc (.cells #[.int .i64 0, .map none, .slice none 0 0, .bool false, .int .i64 0, .int .i64 0] 38))) := Lib.hid (below_alloc (below_first _) _)
  have HNU : Hid (∀ W, Below ((w.alloc (.cells #[.pointer none, .int .u64 0, .slice none 0 0, .bool false] 34)).alloc (.cells #[.int .i64 0, .map none, .slice none 0 0, .bool false, .int .i64 0, .int .i64 0] 38)).heap.size ((w.alloc (.cells #[.pointer none, .int .u64 0, .slice none 0 0, .bool false] 34)).alloc (.cells #[.int .i64 0, .map none, .slice none 0 0, .bool false, .int .i64 0, .int .i64 0] 38)) W → NoStore W (.pointer (some ⟨w.heap.size, 0, none⟩))) := Lib.hid (fun W hB => .inr ⟨_, rfl, (blk_cell (blk_below hl1 hB) 0).trans rfl⟩)
  have HNV : Hid (NoDisk ((w.alloc (.cells #[.pointer none, .int .u64 0, .slice none 0 0, .bool false] 34)).alloc (.cells #[.int .i64 0, .map none, .slice none 0 0, .bool false, .int .i64 0, .int .i64 0] 38)) (.pointer (some ⟨w.heap.size + 1, 0, none⟩))) := Lib.hid (.inr ⟨_, rfl, (blk_cell hl2 0).trans rfl⟩)
  clear hl1 hl2
  go_enter Try.func4, Try.ntmps4
  go_wp2_with (first
    | (go_at_call 14; ((with_reducible refine (open_no _ _ (HND.out _)).mono ?_); rintro e1 w1 ⟨rfl, rfl⟩))
    | (go_at_call 14; ((with_reducible refine (open_no _ _ HNV.out).mono ?_); rintro e1 w1 ⟨rfl, rfl⟩))
    | (go_at_call 15; ((with_reducible refine (sread_no _ n _ (HNS.out _)).mono ?_); rintro e1 w1 ⟨rfl, rfl⟩))
    | (go_at_call 15; ((with_reducible refine (sread_no _ n _ (HNU.out _ (Below.refl _ _))).mono ?_); rintro e1 w1 ⟨rfl, rfl⟩))
    | (go_at_call 16; ((with_reducible refine (swrite_no _ n k _ _ (HNS.out _)).mono ?_); rintro e1 w1 ⟨rfl, rfl⟩))
    | (go_at_call 16; ((with_reducible refine (swrite_no _ n k _ _ (HNU.out _ (Below.refl _ _))).mono ?_); rintro e1 w1 ⟨rfl, rfl⟩))
    | (go_at_call 9; ((with_reducible refine (alive_any _).mono ?_); rintro e3 w3 ⟨rfl, hB⟩; have HB4 := Lib.hid hB; clear hB))
    | (go_at_call 17; ((with_reducible refine (scommit_no _ _ _ (HNS.out _)).mono ?_); rintro e1 w1 ⟨rfl, rfl⟩))
    | (go_at_call 17; ((with_reducible refine (scommit_no _ _ _ (HNU.out _ HB4.out)).mono ?_); rintro e1 w1 ⟨rfl, rfl⟩))
    | (go_at_call 18; ((with_reducible refine (spages_no _ _ (HNS.out _)).mono ?_); rintro e1 w1 ⟨rfl, rfl⟩))
    | (go_at_call 18; ((with_reducible refine (spages_no _ _ (HNU.out _ HB4.out)).mono ?_); rintro e1 w1 ⟨rfl, rfl⟩))
    | (go_at_call 19; ((with_reducible refine (sroot_no _ _ (HNS.out _)).mono ?_); rintro e1 w1 ⟨rfl, rfl⟩))
    | (go_at_call 19; ((with_reducible refine (sroot_no _ _ (HNU.out _ HB4.out)).mono ?_); rintro e1 w1 ⟨rfl, rfl⟩))
    | (go_at_call 20; ((with_reducible refine (sturn_no _ _ (HNS.out _)).mono ?_); rintro e1 w1 ⟨rfl, rfl⟩))
    | (go_at_call 20; ((with_reducible refine (sturn_no _ _ (HNU.out _ HB4.out)).mono ?_); rintro e1 w1 ⟨rfl, rfl⟩)))
  go_ret
  exact ⟨rfl, below_step HW2.out HB4.out⟩
theorem nobody_law (n k : Int) (A : Option Addr) (l : List Int) (c : Nat) (w : World) (_ : (Lit.int .i64 n).wf = true) (_ : (Lit.int .u8 k).wf = true) (hr : ReadsInt w .u8 A l.length l) (wl : ∀ n ∈ l, (Lit.int .u8 n).wf = true) (hc : l.length ≤ c) (_ : l.length * 1 ≤ 140737488351232) :
    Calls Try.prog 4 #[.int .i64 n, .int .u8 k, .slice A l.length c] w fun e w' => e = .returned (.bool true) ∧ Below w.heap.size w w' := by
  by_cases h : 1200 < l.length
  · exact nobody_great n k A _ c w hr.2.1 h
  · exact nobody_small n k A _ c w (by omega)
end Go.Proofs.Ytlmdghafiadgjaa
