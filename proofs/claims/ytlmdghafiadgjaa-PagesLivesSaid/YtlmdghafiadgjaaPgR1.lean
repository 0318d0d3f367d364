/- The document's pages: number, value, Sum, walked. -/
import Derived.Test.YtlmdghafiadgjaaPgK
import Derived.Test.YtlmdghafiadgjaaRdA
namespace Go.Proofs.Ytlmdghafiadgjaa
set_option linter.unusedVariables false
set_option linter.unusedSimpArgs false
open Go.RowKit Go.Proofs.YtlmdghafiadgjaaW.PrintWords Go.Proofs.YtlmdghafiadgjaaW.PrintLast

/-- A block of bytes of a slice that was made. -/
def RowU (w : World) (g : Nat) (xs : List Int) : Prop := w.heap[g]? = some (.cells (nums .u8 xs).toArray 5 (0, 0))
theorem RowU.own {w : World} {g base n : Nat} {xs : List Int} (h : RowU w g xs) (hb : base ≤ g) (hn : n = xs.length) (hl : xs.length ≤ 1000000) : ORow .u8 5 w base (.slice (some ⟨g, 0, none⟩) n n) xs := by
  subst hn
  refine ⟨by simp [nums], .inr ⟨g, xs.length, _, rfl, hb, h, Nat.le_refl _, by unfold maxLen; omega, by simp [nums], ?_⟩⟩
  simp only [nums]
  rw [Nat.mul_one]
  exact List.take_of_length_le (by simp)
theorem RowU.reads {w : World} {g : Nat} {xs : List Int} (h : RowU w g xs) (hl : xs.length ≤ 1000000) : ReadsInt w .u8 (some ⟨g, 0, none⟩) xs.length xs := reads_blk .u8 h (by omega)
theorem RowU.set_ {w : World} {g : Nat} {xs : List Int} (h : RowU w g xs) (j : Nat) (y : Int) : RowU (w.setCell ⟨g, j, none⟩ (.int .u8 y)) g (xs.set j y) := by
  have h9 := blk_set h j (.int .u8 y)
  unfold RowU
  rw [h9]
  simp [nums, List.map_set]
theorem made_u8 (n : Nat) (W : World) : RowU (W.alloc (.cells (madeCells #[.int .u8 0] n) 5)) W.heap.size (List.replicate n 0) := by
  unfold RowU
  rw [heap_alloc_last]
  congr 2
  apply Array.ext
  · simp [madeCells, nums]
  · intro i h1 h2; simp [madeCells, nums, Nat.mod_one]
theorem make_u8 (n : Nat) (hn : n ≤ 100000) (W : World) : (Instr.makeSlice 23 (.int .i64 (n : Int)) (.int .i64 (n : Int))).run Try.prog W = .ok (.slice (some ⟨W.heap.size, 0, none⟩) n n) (W.alloc (.cells (madeCells #[.int .u8 0] n) 5)) := by
  have h := print_make_int (P := Try.prog) 23 5 (.int .u8 0) 1 Try.underlying23 infoU8 rfl (by decide) (n : Int) (by omega) (by simp; omega) W
  rwa [Int.toNat_natCast] at h
def dv (v : Int) : Nat → Int
  | 0 => v
  | j + 1 => dv v j / 256
theorem dv_next (v : Int) : ∀ j, dv (v / 256) j = dv v (j + 1)
  | 0 => rfl
  | j + 1 => by
    show dv (v / 256) j / 256 = dv v (j + 1) / 256
    rw [dv_next v j]
theorem dv_range {v : Int} (h0 : 0 ≤ v) (h1 : v < 18446744073709551616) : ∀ j, 0 ≤ dv v j ∧ dv v j < 18446744073709551616
  | 0 => ⟨h0, h1⟩
  | j + 1 => by
    have := dv_range h0 h1 j
    show 0 ≤ dv v j / 256 ∧ dv v j / 256 < 18446744073709551616
    omega
theorem be_drop : ∀ (j m : Nat) (v : Int), (be (m + 1 + j) v).drop m = (dv v j % 256) :: (be (m + 1 + j) v).drop (m + 1)
  | 0, m, v => by
    have h1 := be_len m (v / 256)
    rw [Nat.add_zero, be, List.drop_append_of_le_length (by omega), List.drop_eq_nil_of_le (by omega)]
    rw [show m + 1 = (be m (v / 256) ++ [v % 256]).length by rw [List.length_append, h1]; rfl, List.drop_length]
    rfl
  | j + 1, m, v => by
    have h1 := be_len (m + 1 + j) (v / 256)
    have ih := be_drop j m (v / 256)
    rw [show m + 1 + (j + 1) = (m + 1 + j) + 1 by omega, be, List.drop_append_of_le_length (by omega), List.drop_append_of_le_length (by omega), ih, dv_next]
    rfl
theorem set_rep (m : Nat) (y : Int) (X : List Int) : (List.replicate (m + 1) 0 ++ X).set m y = List.replicate m 0 ++ y :: X := by
  rw [List.replicate_succ', List.append_assoc, List.set_append_right _ _ (by simp)]
  simp
set_option maxRecDepth 100000 in
set_option maxHeartbeats 2000000 in
theorem number_any (v : Int) (n : Nat) (w : World) (h0 : 0 ≤ v) (h1 : v < 18446744073709551616) (hn : n ≤ 100) :
    Calls Try.prog 33 #[.int .u64 v, .int .i64 (n : Int)] w fun e w' => ∃ r, e = .returned r ∧ ORow .u8 5 w' w.heap.size r (be n v) ∧ Below w.heap.size w w' := by
  have hmk := make_u8 n (by omega)
  have HR := Lib.hid (made_u8 n w)
  have HB := Lib.hid (below_first (w := w) (.cells (madeCells #[.int .u8 0] n) 5))
  have hws : wrap64 ((n : Int) - 1) = (n : Int) - 1 := wrap64_id _ (by omega) (by omega)
  go_enter Try.func33, Try.ntmps33
  go_wp2
  go_loopw [0, 6] (fun s0 s6 wr => ∃ j m : Nat, m + j = n ∧ s6 = .int .i64 ((m : Int) - 1) ∧ s0 = .int .u64 (dv v j) ∧ Hid (RowU wr w.heap.size (List.replicate m 0 ++ (be n v).drop m)) ∧ Hid (Below w.heap.size w wr)) (fun _ s6 _ => (intOf s6 + 1).toNat)
  case atStart => exact ⟨0, n, rfl, rfl, rfl, Lib.hid (by rw [List.drop_eq_nil_of_le (by rw [be_len]; omega), List.append_nil]; exact HR.out), HB⟩
  case round =>
    obtain ⟨j, m, hmj, rfl, rfl, HR, HB⟩ := hrel
    have hdr := dv_range h0 h1 j
    by_cases hm : 1 ≤ m
    · obtain ⟨q, rfl⟩ : ∃ q, m = q + 1 := ⟨m - 1, by omega⟩
      have hx : (((q + 1 : Nat) : Int) - 1) = (q : Int) := by omega
      rw [hx]
      have ht := tmod_pos (dv v j) 256 hdr.1
      have hd := tdiv_pos (dv v j) 256 hdr.1
      have hu : IntKind.u64.wrap (dv v j % 256) = dv v j % 256 := by
        have e : (dv v j % 256) % 18446744073709551616 = dv v j % 256 := Int.emod_eq_of_lt (by omega) (by omega)
        simp [IntKind.wrap, IntKind.bits, IntKind.signed, e]
      have hv : IntKind.u64.wrap (dv v j / 256) = dv v j / 256 := by
        have e : (dv v j / 256) % 18446744073709551616 = dv v j / 256 := Int.emod_eq_of_lt (by omega) (by omega)
        simp [IntKind.wrap, IntKind.bits, IntKind.signed, e]
      have hb : IntKind.u8.wrap (dv v j % 256) = dv v j % 256 := by rw [IntKind.wrap_u8]; omega
      have hwq : wrap64 ((q : Int) - 1) = (q : Int) - 1 := wrap64_id _ (by omega) (by omega)
      have fj := blk_frozen HR.out q
      have ej : wr.cell? ⟨w.heap.size, q, none⟩ = some (.int .u8 0) := by
        refine (blk_cell HR.out q).trans ?_
        simp only [nums, List.map_append, List.getElem?_toArray]
        rw [List.getElem?_append_left (by simp)]
        simp
      have HN : Hid (RowU (wr.setCell ⟨w.heap.size, q, none⟩ (.int .u8 (dv v j % 256))) w.heap.size (List.replicate q 0 ++ (be n v).drop q)) := Lib.hid (by
        have h9 := HR.out.set_ q (dv v j % 256)
        rw [set_rep] at h9
        have h8 := be_drop j q v
        rw [show q + 1 + j = n by omega] at h8
        rw [h8]; exact h9)
      have HBN := Lib.hid (HB.out.setCell (p := ⟨w.heap.size, q, none⟩) (Nat.le_refl _) (.int .u8 (dv v j % 256)))
      have hnx : dv v j / 256 = dv v (j + 1) := rfl
      go_wp2
      go_roundw
      case rel => exact ⟨j + 1, q, by omega, by go_num, hnx ▸ rfl, HN, HBN⟩
      case measure => simp [intOf] <;> omega
    · obtain rfl : m = 0 := by omega
      go_wp2
      go_ret
      exact ⟨_, rfl, by have h9 := HR.out; rw [List.drop_zero, List.replicate_zero, List.nil_append] at h9; exact h9.own (Nat.le_refl _) (be_len n v).symm (by rw [be_len]; omega), HB.out⟩
end Go.Proofs.Ytlmdghafiadgjaa
