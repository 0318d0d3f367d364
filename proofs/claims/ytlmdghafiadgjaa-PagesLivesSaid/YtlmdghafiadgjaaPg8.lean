/- pages: what a store is in memory; its small methods. -/
import Derived.Test.YtlmdghafiadgjaaPg7
namespace Go.Proofs.Ytlmdghafiadgjaa
set_option linter.unusedVariables false
set_option linter.unusedSimpArgs false
open Go.RowKit Go.Proofs.YtlmdghafiadgjaaW.PrintWords Go.Proofs.YtlmdghafiadgjaaW.PrintLast

/-- A store in block p over the disk in block b (whose blocks are fs): its turn, its root, whether it is broken. -/
def StoreAt (w : World) (p b : Nat) (T : Int) (R : List Int) (B : Bool) (fs : Nat → Prop) : Prop :=
  ∃ v, w.heap[p]? = some (.cells #[.pointer (some ⟨b, 0, none⟩), .int .u64 T, v, .bool B] 34 (0, 0)) ∧ ORow .u8 5 w 0 v R ∧ ¬ fs p ∧ (∀ g, v.ownBlock = some g → g ≠ p ∧ ¬ fs g)
theorem StoreAt.lt {w : World} {p b : Nat} {T : Int} {R : List Int} {B : Bool} {fs : Nat → Prop} (h : StoreAt w p b T R B fs) : p < w.heap.size := by
  obtain ⟨v, h1, _⟩ := h
  exact blk_lt h1
theorem StoreAt.eff {w w' : World} {p b : Nat} {T : Int} {R : List Int} {B : Bool} {fs gs ks : Nat → Prop} (h : StoreAt w p b T R B fs) (hf : Frame ks w w') (hk : ∀ i, ks i → fs i ∨ w.heap.size ≤ i) (hg : ∀ i, gs i → fs i ∨ w.heap.size ≤ i) : StoreAt w' p b T R B gs := by
  obtain ⟨v, h1, h2, h3, h4⟩ := h
  have hp := blk_lt h1
  have hn : ∀ i, i < w.heap.size → ¬ fs i → ¬ ks i := fun i hi hnf hki => (hk i hki).elim hnf (fun h => by omega)
  have hm : ∀ i, i < w.heap.size → ¬ fs i → ¬ gs i := fun i hi hnf hki => (hg i hki).elim hnf (fun h => by omega)
  refine ⟨v, (hf.block p hp (hn p hp h3)).trans h1, own_keep h2 (fun g hg => hf.block g (own_lt h2 g hg) (hn g (own_lt h2 g hg) (h4 g hg).2)), hm p hp h3, fun g hg => ⟨(h4 g hg).1, hm g (own_lt h2 g hg) (h4 g hg).2⟩⟩
theorem StoreAt.below {w w' : World} {p b : Nat} {T : Int} {R : List Int} {B : Bool} {fs : Nat → Prop} (h : StoreAt w p b T R B fs) (hb : Below w.heap.size w w') : StoreAt w' p b T R B fs :=
  h.eff (ks := fs) (Below.frame_ hb) (fun _ h => .inl h) (fun _ h => .inl h)
theorem StoreAt.cells {w : World} {p b : Nat} {T : Int} {R : List Int} {B : Bool} {fs : Nat → Prop} (h : StoreAt w p b T R B fs) : w.cell? ⟨p, 0, none⟩ = some (.pointer (some ⟨b, 0, none⟩)) ∧ w.cell? ⟨p, 1, none⟩ = some (.int .u64 T) ∧ w.cell? ⟨p, 3, none⟩ = some (.bool B) := by
  obtain ⟨v, h1, _⟩ := h
  exact ⟨(blk_cell h1 0).trans rfl, (blk_cell h1 1).trans rfl, (blk_cell h1 3).trans rfl⟩
def NoStore (w : World) (v : Value) : Prop := v = .pointer none ∨ ∃ p, v = .pointer (some ⟨p, 0, none⟩) ∧ w.cell? ⟨p, 0, none⟩ = some (.pointer none)

set_option maxRecDepth 100000 in
set_option maxHeartbeats 400000 in
theorem smade_no (v : Value) (w : World) (h : NoStore w v) : Calls Try.prog 46 #[v] w fun e w' => e = .returned (.bool false) ∧ w = w' := by
  rcases h with rfl | ⟨p, rfl, h⟩
  · go_enter Try.func46, Try.ntmps46
    go_wp2
    go_ret
    exact ⟨rfl, rfl⟩
  · go_enter Try.func46, Try.ntmps46
    go_wp2
    go_ret
    exact ⟨rfl, rfl⟩
set_option maxRecDepth 100000 in
set_option maxHeartbeats 400000 in
theorem smade_yes (p b : Nat) (w : World) (h : w.cell? ⟨p, 0, none⟩ = some (.pointer (some ⟨b, 0, none⟩))) : Calls Try.prog 46 #[.pointer (some ⟨p, 0, none⟩)] w fun e w' => e = .returned (.bool true) ∧ w = w' := by
  go_enter Try.func46, Try.ntmps46
  go_wp2
  go_ret
  exact ⟨rfl, rfl⟩
set_option maxRecDepth 100000 in
set_option maxHeartbeats 400000 in
theorem spages_no (v : Value) (w : World) (h : NoStore w v) : Calls Try.prog 18 #[v] w fun e w' => e = .returned (.int .i64 0) ∧ w = w' := by
  have HM := Lib.hid (smade_no v w h)
  clear h
  go_enter Try.func18, Try.ntmps18
  go_wp2_with (first | (go_at_call 46; ((with_reducible refine HM.out.mono ?_); rintro e w1 ⟨rfl, rfl⟩)))
  go_ret
  exact ⟨rfl, rfl⟩
set_option maxRecDepth 100000 in
set_option maxHeartbeats 400000 in
theorem spages_yes (p b : Nat) (n : Int) (w : World) (h : w.cell? ⟨p, 0, none⟩ = some (.pointer (some ⟨b, 0, none⟩))) (hc : w.cell? ⟨b, 0, none⟩ = some (.int .i64 n)) (hn : 0 < n) (hn2 : n ≤ 65536) : Calls Try.prog 18 #[.pointer (some ⟨p, 0, none⟩)] w fun e w' => e = .returned (.int .i64 (n / 4)) ∧ w = w' := by
  have HM := Lib.hid (smade_yes p b w h)
  have HS := Lib.hid (size_any b n w hc hn)
  have hq : n.tdiv 4 = n / 4 := Int.tdiv_eq_ediv_of_nonneg (by omega)
  have hwq : wrap64 (n / 4) = n / 4 := wrap64_id _ (by omega) (by omega)
  clear hc
  go_enter Try.func18, Try.ntmps18
  go_wp2_with (first
    | (go_at_call 46; ((with_reducible refine HM.out.mono ?_); rintro e w1 ⟨rfl, rfl⟩))
    | (go_at_call 41; ((with_reducible refine HS.out.mono ?_); rintro e w1 ⟨rfl, rfl⟩)))
  go_ret
  exact ⟨rfl, rfl⟩
set_option maxRecDepth 100000 in
set_option maxHeartbeats 400000 in
theorem sturn_no (v : Value) (w : World) (h : NoStore w v) : Calls Try.prog 20 #[v] w fun e w' => e = .returned (.int .u64 0) ∧ w = w' := by
  have HM := Lib.hid (smade_no v w h)
  clear h
  go_enter Try.func20, Try.ntmps20
  go_wp2_with (first | (go_at_call 46; ((with_reducible refine HM.out.mono ?_); rintro e w1 ⟨rfl, rfl⟩)))
  go_ret
  exact ⟨rfl, rfl⟩
set_option maxRecDepth 100000 in
set_option maxHeartbeats 400000 in
theorem sturn_yes (p b : Nat) (T : Int) (R : List Int) (B : Bool) (fs : Nat → Prop) (w : World) (h : StoreAt w p b T R B fs) : Calls Try.prog 20 #[.pointer (some ⟨p, 0, none⟩)] w fun e w' => e = .returned (.int .u64 T) ∧ w = w' := by
  obtain ⟨h0, h1, h3⟩ := h.cells
  have HM := Lib.hid (smade_yes p b w h0)
  clear h
  go_enter Try.func20, Try.ntmps20
  go_wp2_with (first | (go_at_call 46; ((with_reducible refine HM.out.mono ?_); rintro e w1 ⟨rfl, rfl⟩)))
  go_ret
  exact ⟨rfl, rfl⟩
set_option maxRecDepth 100000 in
set_option maxHeartbeats 400000 in
theorem sroot_no (v : Value) (w : World) (h : NoStore w v) : Calls Try.prog 19 #[v] w fun e w' => e = .returned (.slice none 0 0) ∧ w = w' := by
  have HM := Lib.hid (smade_no v w h)
  clear h
  go_enter Try.func19, Try.ntmps19
  go_wp2_with (first | (go_at_call 46; ((with_reducible refine HM.out.mono ?_); rintro e w1 ⟨rfl, rfl⟩)))
  go_ret
  exact ⟨rfl, rfl⟩
set_option maxRecDepth 100000 in
set_option maxHeartbeats 400000 in
theorem sroot_yes (p b : Nat) (T : Int) (R : List Int) (B : Bool) (fs : Nat → Prop) (w : World) (h : StoreAt w p b T R B fs) (hl : R.length ≤ 1200) : Calls Try.prog 19 #[.pointer (some ⟨p, 0, none⟩)] w fun e w' => ∃ v, e = .returned v ∧ ORow .u8 5 w' w.heap.size v R ∧ Below w.heap.size w w' := by
  obtain ⟨h0, h1, h3⟩ := h.cells
  have HM := Lib.hid (smade_yes p b w h0)
  obtain ⟨v, hb, hr, _⟩ := h
  obtain ⟨A, c, rfl, hc, hrd⟩ := hr.reads
  have h2 : w.cell? ⟨p, 2, none⟩ = some (.slice A R.length c) := (blk_cell hb 2).trans rfl
  have HC := Lib.hid (clone_any A R.length c R w hrd (by omega))
  clear hb hr hrd h1 h3
  go_enter Try.func19, Try.ntmps19
  go_wp2_with (first
    | (go_at_call 46; ((with_reducible refine HM.out.mono ?_); rintro e w1 ⟨rfl, rfl⟩))
    | (go_at_call 39; ((with_reducible refine HC.out.mono ?_); rintro e w1 ⟨v1, rfl, hO1, hB1⟩; have HO1 := Lib.hid hO1; have HB1 := Lib.hid hB1; clear hO1 hB1)))
  go_ret
  exact ⟨v1, rfl, HO1.out, HB1.out⟩
def dataV (N n : Int) : Int := if n < 2 ∨ N ≤ n then 1 else 0
set_option maxRecDepth 100000 in
set_option maxHeartbeats 400000 in
theorem data_no (v : Value) (n : Int) (w : World) (h : NoStore w v) : Calls Try.prog 44 #[v, .int .i64 n] w fun e w' => e = .returned (.int .i64 6) ∧ w = w' := by
  have HM := Lib.hid (smade_no v w h)
  clear h
  go_enter Try.func44, Try.ntmps44
  go_wp2_with (first | (go_at_call 46; ((with_reducible refine HM.out.mono ?_); rintro e w1 ⟨rfl, rfl⟩)))
  go_ret
  exact ⟨rfl, rfl⟩
set_option maxRecDepth 100000 in
set_option maxHeartbeats 1000000 in
theorem data_yes (p b : Nat) (N n : Int) (w : World) (h : w.cell? ⟨p, 0, none⟩ = some (.pointer (some ⟨b, 0, none⟩))) (hc : w.cell? ⟨b, 0, none⟩ = some (.int .i64 N)) (hn : 0 < N) (hn2 : N ≤ 65536) : Calls Try.prog 44 #[.pointer (some ⟨p, 0, none⟩), .int .i64 n] w fun e w' => e = .returned (.int .i64 (dataV (N / 4) n)) ∧ w = w' := by
  have HM := Lib.hid (smade_yes p b w h)
  have HS := Lib.hid (spages_yes p b N w h hc hn hn2)
  clear hc h
  unfold dataV
  generalize N / 4 = M at *
  by_cases h1 : n < 2
  · rw [if_pos (.inl h1)]
    go_enter Try.func44, Try.ntmps44
    go_wp2_with (first
      | (go_at_call 46; ((with_reducible refine HM.out.mono ?_); rintro e w1 ⟨rfl, rfl⟩))
      | (go_at_call 18; ((with_reducible refine HS.out.mono ?_); rintro e w1 ⟨rfl, rfl⟩)))
    go_ret
    exact ⟨rfl, rfl⟩
  · by_cases h2 : M ≤ n
    · rw [if_pos (.inr h2)]
      go_enter Try.func44, Try.ntmps44
      go_wp2_with (first
        | (go_at_call 46; ((with_reducible refine HM.out.mono ?_); rintro e w1 ⟨rfl, rfl⟩))
        | (go_at_call 18; ((with_reducible refine HS.out.mono ?_); rintro e w1 ⟨rfl, rfl⟩)))
      go_ret
      exact ⟨rfl, rfl⟩
    · rw [if_neg (fun h => h.elim h1 h2)]
      go_enter Try.func44, Try.ntmps44
      go_wp2_with (first
        | (go_at_call 46; ((with_reducible refine HM.out.mono ?_); rintro e w1 ⟨rfl, rfl⟩))
        | (go_at_call 18; ((with_reducible refine HS.out.mono ?_); rintro e w1 ⟨rfl, rfl⟩)))
      go_ret
      exact ⟨rfl, rfl⟩
end Go.Proofs.Ytlmdghafiadgjaa
