/- The disk: what the statements' Call does. -/
import Derived.Test.YtfjeincceglfoaaDk9
namespace Go.Proofs.Ytfjeincceglfoaa
open Go.RowKit Go.Proofs.YtfjeincceglfoaaW.PrintWords
open Go.ChangeMaps (setBlock)

structure OpV where
  kind : Int
  at_ : Int
  n : Int
  torn : Int
  fill : Int
  bad : Bool
  e : Int
def OpV.cells (o : OpV) : Array Value := #[.int .i64 o.kind, .int .i64 o.at_, .int .i64 o.n, .int .i64 o.torn, .int .u8 o.fill, .bool o.bad, .int .i64 o.e]
def OpV.Ok (o : OpV) : Prop := 0 ≤ o.fill ∧ o.fill ≤ 255

/-- A row of m bytes in block g, whatever they are. -/
def RowB (w : World) (g m : Nat) : Prop := ∃ cur t, w.heap[g]? = some (.cells cur t (0, 0)) ∧ ∀ i, i < m → ∃ x, cur[i]? = some (.int .u8 x) ∧ 0 ≤ x ∧ x ≤ 255
theorem RowB.keep {w w' : World} {g m : Nat} (h : RowB w g m) (hk : w'.heap[g]? = w.heap[g]?) : RowB w' g m := by
  obtain ⟨cur, t, hb, hc⟩ := h
  exact ⟨cur, t, hk.trans hb, hc⟩
theorem RowB.lt {w : World} {g m : Nat} (h : RowB w g m) : g < w.heap.size := by
  obtain ⟨cur, t, hb, hc⟩ := h
  exact blk_lt hb
theorem RowB.set {w : World} {g m : Nat} (h : RowB w g m) (j : Nat) (x : Int) (h0 : 0 ≤ x) (h1 : x ≤ 255) : RowB (w.setCell ⟨g, j, none⟩ (.int .u8 x)) g m := by
  obtain ⟨cur, t, hb, hc⟩ := h
  refine ⟨cur.setIfInBounds j (.int .u8 x), t, ?_, fun i hi => ?_⟩
  · exact blk_set hb j _
  · by_cases e : j = i
    · subst e
      obtain ⟨y, hy, _⟩ := hc j hi
      have : j < cur.size := (Array.getElem?_eq_some_iff.1 hy).1
      exact ⟨x, by simp [this], h0, h1⟩
    · obtain ⟨y, hy, h2⟩ := hc i hi
      exact ⟨y, by rw [Array.getElem?_setIfInBounds_ne e]; exact hy, h2⟩
theorem ORow.rowB {w : World} {base g n c : Nat} {xs : List Int} (h : ORow .u8 5 w base (.slice (some ⟨g, 0, none⟩) n c) xs) (hx : Bytes xs) : RowB w g xs.length := by
  obtain ⟨_, h2⟩ := h
  rcases h2 with ⟨h3, _⟩ | ⟨g', cap, cur, he, hg, hh, r⟩
  · cases h3
  · injection he with h1
    injection h1 with h1
    injection h1 with h1
    subst h1
    refine ⟨cur, _, hh, fun i hi => ?_⟩
    have h5 := r.2.2.2
    have h6 : cur.toList[i]? = (nums .u8 xs)[i]? := by
      rw [← h5, List.getElem?_take, if_pos (by omega)]
    refine ⟨xs[i], ?_, hx _ (List.getElem_mem hi)⟩
    rw [← Array.getElem?_toList, h6]
    simp [nums, hi]
set_option maxRecDepth 100000 in
set_option maxHeartbeats 400000 in
theorem write_no (p : Value) (i : Int) (v : Value) (w : World) (h : NoDisk w p) : Calls Try.prog 24 #[p, .int .i64 i, v] w fun e w' => e = .returned (.int .i64 6) ∧ w = w' := by
  have HM := Lib.hid (has_no p i w h)
  clear h
  go_enter Try.func24, Try.ntmps24
  go_wp2_with (first | (go_at_call 28; ((with_reducible refine HM.out.mono ?_); rintro e w1 ⟨rfl, rfl⟩)))
  go_ret
  exact ⟨rfl, rfl⟩
theorem orow_form {w : World} {base : Nat} {v : Value} {xs : List Int} (h : ORow .u8 5 w base v xs) (h0 : 0 < xs.length) : ∃ g c, v = .slice (some ⟨g, 0, none⟩) xs.length c ∧ ReadsInt w .u8 (some ⟨g, 0, none⟩) xs.length xs ∧ base ≤ g ∧ g < w.heap.size := by
  obtain ⟨g, c, rfl, _⟩ := own_form h h0
  obtain ⟨A, c', he, _, hr⟩ := h.reads
  injection he with h1 h2 h3
  subst h1
  exact ⟨g, c, rfl, hr, h.lt g rfl⟩
/-- What comes of a Call of kind 0: the bytes (below), the Write (fs), the row is turned (block g). -/
structure CallW (w : World) (fs : Nat → Prop) (Fin : World → World → Prop) (w' : World) : Prop where
  ex : ∃ w1 w2 g, Below w.heap.size w w1 ∧ Fin w1 w2 ∧ Frame fs w1 w2 ∧ w.heap.size ≤ g ∧ g < w1.heap.size ∧ Frame (fun i => i = g) w2 w'
set_option maxRecDepth 100000 in
set_option maxHeartbeats 2000000 in
theorem call_write (p : Value) (q a n t f : Int) (bad : Bool) (e : Int) (w : World) (fs : Nat → Prop) (Fin : World → World → Prop) (hfs : ∀ i, fs i → i < w.heap.size)
    (HW : Hid (∀ w1 A c, Below w.heap.size w w1 → ReadsInt w1 .u8 A (bytesV f bad).length (bytesV f bad) → (∀ ad, A = some ad → w.heap.size ≤ ad.block) → Calls Try.prog 24 #[p, .int .i64 a, .slice A (bytesV f bad).length c] w1 fun e w2 => e = .returned (.int .i64 q) ∧ Fin w1 w2 ∧ Frame fs w1 w2)) :
    Calls Try.prog 15 #[p, .agg #[.int .i64 0, .int .i64 a, .int .i64 n, .int .i64 t, .int .u8 f, .bool bad, .int .i64 e]] w fun e w' => e = .returned (.int .i64 q) ∧ CallW w fs Fin w' := by
  have HBY := Lib.hid (bytes_any 0 a n t f bad e (w.alloc (.cells #[.int .i64 0, .int .i64 a, .int .i64 n, .int .i64 t, .int .u8 f, .bool bad, .int .i64 e] 36)))
  have hb0 := heap_alloc_last w (.cells #[.int .i64 0, .int .i64 a, .int .i64 n, .int .i64 t, .int .u8 f, .bool bad, .int .i64 e] 36)
  have HX := Lib.hid (bytesV_bytes f bad)
  have HLN : Hid (0 < (bytesV f bad).length ∧ (bytesV f bad).length ≤ 257) := Lib.hid (by rw [bytesV_len]; split <;> omega)
  generalize bytesV f bad = xs at *
  have HFS := Lib.hid hfs
  clear hfs
  have HBX := Lib.hid hb0
  clear hb0
  go_enter Try.func15, Try.ntmps15
  go_wp2_with (first
    | ((with_reducible refine at_load_row (x := .tmp 3) (d := some 12) w.heap.size #[.int .i64 0, .int .i64 a, .int .i64 n, .int .i64 t, .int .u8 f, .bool bad, .int .i64 e] (0, 0) _ HBX.out Try.underlying36 (by kernel_rfl) rfl ?_ ?_); rfl)
    | (go_at_call 16; ((with_reducible refine HBY.out.mono ?_); rintro e1 w1 ⟨v1, rfl, hO1, hB1⟩; obtain ⟨g, c, rfl, hr1, hg1, hg2⟩ := orow_form hO1 HLN.out.1; have HB1 := Lib.hid (below_step (below_first _) hB1); have cz1 : w1.cell? ⟨w.heap.size, 1, none⟩ = some (.int .i64 a) := pw_cell_below hB1 ((blk_cell HBX.out 1).trans rfl); have HRB := Lib.hid (hO1.rowB HX.out); have HG1 : Hid (w.heap.size ≤ g ∧ g < w1.heap.size) := Lib.hid ⟨by simp at hg1; omega, hg2⟩; have HR1 := Lib.hid hr1; clear hO1 hB1 hr1 hg1 hg2))
    | (go_at_call 24; ((with_reducible refine (HW.out w1 (some ⟨g, 0, none⟩) c HB1.out HR1.out (fun ad had => by injection had with had; subst had; exact HG1.out.1)).mono ?_); rintro e2 w2 ⟨rfl, hF2, hFr2⟩; have HF2 := Lib.hid hF2; have HFr2 := Lib.hid hFr2; clear hF2 hFr2)))
  have hln := HLN.out.2
  generalize xs.length = m at *
  have HRB2 : Hid (RowB w2 g m) := Lib.hid (HRB.out.keep (HFr2.out.block g HG1.out.2 (fun hf => by have := HFS.out g hf; have := HG1.out.1; omega)))
  clear cz1
  go_loopw [7] (fun s7 wr => ∃ j : Nat, j ≤ m ∧ s7 = .int .i64 j ∧ Hid (RowB wr g m) ∧ Hid (Frame (fun i => i = g) w2 wr)) (fun s7 _ => m - (intOf s7).toNat)
  case atStart => exact ⟨0, Nat.zero_le _, rfl, HRB2, Lib.hid (Frame.refl _ _)⟩
  case round =>
    obtain ⟨j, hj, rfl, HR, HF⟩ := hrel
    by_cases hlt : j < m
    · obtain ⟨cur, tt, hb, hc⟩ := HR.out
      obtain ⟨x, hx, hx0, hx1⟩ := hc j hlt
      have cj : wr.cell? ⟨g, j, none⟩ = some (.int .u8 x) := (blk_cell hb j).trans hx
      have fj := blk_frozen hb j
      have hj0 : (0 : Int) ≤ (j : Int) := Int.natCast_nonneg _
      have hj1 : (j : Int) < (m : Int) := by omega
      clear hb hc hx
      go_wp2
      go_round
      case measure => simp [intOf]; omega
      case rel => exact ⟨j + 1, by omega, by simp, Lib.hid (HR.out.set j _ (xr_range _ _).1 (xr_range _ _).2), Lib.hid (HF.out.setCell (.inl rfl) _)⟩
    · obtain rfl : j = m := by omega
      have hj1 : ¬ ((j : Int) < (j : Int)) := by omega
      go_wp2
      go_ret
      exact ⟨rfl, ⟨w1, w2, g, HB1.out, HF2.out, HFr2.out, HG1.out.1, HG1.out.2, HF.out⟩⟩
set_option maxRecDepth 100000 in
set_option maxHeartbeats 1000000 in
theorem call_sync (p : Value) (q a n t f : Int) (bad : Bool) (e : Int) (w : World) (Fin : World → Prop)
    (HW : Hid (Calls Try.prog 13 #[p] (w.alloc (.cells #[.int .i64 1, .int .i64 a, .int .i64 n, .int .i64 t, .int .u8 f, .bool bad, .int .i64 e] 36)) fun e w2 => e = .returned (.int .i64 q) ∧ Fin w2)) :
    Calls Try.prog 15 #[p, .agg #[.int .i64 1, .int .i64 a, .int .i64 n, .int .i64 t, .int .u8 f, .bool bad, .int .i64 e]] w fun e w' => e = .returned (.int .i64 q) ∧ Fin w' := by
  go_enter Try.func15, Try.ntmps15
  go_wp2_with (first | (go_at_call 13; ((with_reducible refine HW.out.mono ?_); rintro e2 w2 ⟨rfl, hF2⟩; have HF2 := Lib.hid hF2; clear hF2)))
  go_ret
  exact ⟨rfl, HF2.out⟩
set_option maxRecDepth 100000 in
set_option maxHeartbeats 1000000 in
theorem call_crash (p : Value) (q a n t f : Int) (bad : Bool) (e : Int) (w : World) (Fin : World → Prop)
    (HW : Hid (Calls Try.prog 11 #[p, .int .i64 n, .int .i64 t] (w.alloc (.cells #[.int .i64 2, .int .i64 a, .int .i64 n, .int .i64 t, .int .u8 f, .bool bad, .int .i64 e] 36)) fun e w2 => e = .returned (.int .i64 q) ∧ Fin w2)) :
    Calls Try.prog 15 #[p, .agg #[.int .i64 2, .int .i64 a, .int .i64 n, .int .i64 t, .int .u8 f, .bool bad, .int .i64 e]] w fun e w' => e = .returned (.int .i64 q) ∧ Fin w' := by
  go_enter Try.func15, Try.ntmps15
  go_wp2_with (first | (go_at_call 11; ((with_reducible refine HW.out.mono ?_); rintro e2 w2 ⟨rfl, hF2⟩; have HF2 := Lib.hid hF2; clear hF2)))
  go_ret
  exact ⟨rfl, HF2.out⟩
set_option maxRecDepth 100000 in
set_option maxHeartbeats 1000000 in
theorem call_fail (p : Value) (q a n t f : Int) (bad : Bool) (e : Int) (w : World) (Fin : World → Prop)
    (HW : Hid (Calls Try.prog 23 #[p, .int .i64 n, .int .i64 e] (w.alloc (.cells #[.int .i64 3, .int .i64 a, .int .i64 n, .int .i64 t, .int .u8 f, .bool bad, .int .i64 e] 36)) fun e w2 => e = .returned (.int .i64 q) ∧ Fin w2)) :
    Calls Try.prog 15 #[p, .agg #[.int .i64 3, .int .i64 a, .int .i64 n, .int .i64 t, .int .u8 f, .bool bad, .int .i64 e]] w fun e w' => e = .returned (.int .i64 q) ∧ Fin w' := by
  go_enter Try.func15, Try.ntmps15
  go_wp2_with (first | (go_at_call 23; ((with_reducible refine HW.out.mono ?_); rintro e2 w2 ⟨rfl, hF2⟩; have HF2 := Lib.hid hF2; clear hF2)))
  go_ret
  exact ⟨rfl, HF2.out⟩
set_option maxRecDepth 100000 in
set_option maxHeartbeats 1000000 in
theorem call_turn (p : Value) (q a n t f : Int) (bad : Bool) (e : Int) (w : World) (Fin : World → Prop)
    (HW : Hid (Calls Try.prog 29 #[p, .int .i64 a, .int .i64 t, .int .u8 f] (w.alloc (.cells #[.int .i64 4, .int .i64 a, .int .i64 n, .int .i64 t, .int .u8 f, .bool bad, .int .i64 e] 36)) fun e w2 => e = .returned (.int .i64 q) ∧ Fin w2)) :
    Calls Try.prog 15 #[p, .agg #[.int .i64 4, .int .i64 a, .int .i64 n, .int .i64 t, .int .u8 f, .bool bad, .int .i64 e]] w fun e w' => e = .returned (.int .i64 q) ∧ Fin w' := by
  go_enter Try.func15, Try.ntmps15
  go_wp2_with (first | (go_at_call 29; ((with_reducible refine HW.out.mono ?_); rintro e2 w2 ⟨rfl, hF2⟩; have HF2 := Lib.hid hF2; clear hF2)))
  go_ret
  exact ⟨rfl, HF2.out⟩
set_option maxRecDepth 100000 in
set_option maxHeartbeats 1000000 in
theorem call_else (p : Value) (k a n t f : Int) (bad : Bool) (e : Int) (w : World) (h0 : k ≠ 0) (h1 : k ≠ 1) (h2 : k ≠ 2) (h3 : k ≠ 3) (h4 : k ≠ 4) :
    Calls Try.prog 15 #[p, .agg #[.int .i64 k, .int .i64 a, .int .i64 n, .int .i64 t, .int .u8 f, .bool bad, .int .i64 e]] w fun e' w' => e' = .returned (.int .i64 0) ∧ w' = w.alloc (.cells #[.int .i64 k, .int .i64 a, .int .i64 n, .int .i64 t, .int .u8 f, .bool bad, .int .i64 e] 36) := by
  have b0 : (k == 0) = false := beq_eq_false_iff_ne.mpr h0
  have b1 : (k == 1) = false := beq_eq_false_iff_ne.mpr h1
  have b2 : (k == 2) = false := beq_eq_false_iff_ne.mpr h2
  have b3 : (k == 3) = false := beq_eq_false_iff_ne.mpr h3
  have b4 : (k == 4) = false := beq_eq_false_iff_ne.mpr h4
  clear h0 h1 h2 h3 h4
  go_enter Try.func15, Try.ntmps15
  go_wp2
  go_ret
  exact ⟨rfl, rfl⟩
/-! Put together. -/
def callV (D : DS) (o : OpV) : Int × DS :=
  if o.kind = 0 then writeV D o.at_ (bytesV o.fill o.bad) else if o.kind = 1 then syncV D else if o.kind = 2 then (0, crashV D o.n o.torn) else if o.kind = 3 then failV D o.n o.e else if o.kind = 4 then turnV D o.at_ o.torn o.fill else (0, D)
theorem Eff.first {w w1 : World} {b : Nat} {fs : Nat → Prop} {D' : DS} (o : Obj) (h : Eff (w.alloc o) b fs D' w1) : Eff w b fs D' w1 := by
  obtain ⟨fs', h1, h2, h3⟩ := h
  exact ⟨fs', h1, (Below.frame_ (below_first o)).same h2, fun i hi => (h3 i hi).imp id (fun h => by simp at h; omega)⟩
theorem Eff.of {w w1 : World} {b : Nat} {fs : Nat → Prop} {D' : DS} (h : DiskAt w1 b D' fs) (hf : Frame fs w w1) : Eff w b fs D' w1 := ⟨fs, h, hf, fun _ h => .inl h⟩
theorem call_any (b : Nat) (D : DS) (fs : Nat → Prop) (o : OpV) (w : World) (h : DiskAt w b D fs) (ho : o.Ok) (ha : D.after ≤ 9223372036854775807) (hpl : D.pend.length ≤ 1000000000) :
    Calls Try.prog 15 #[.pointer (some ⟨b, 0, none⟩), .agg o.cells] w fun e w' => e = .returned (.int .i64 (callV D o).1) ∧ Eff w b fs (callV D o).2 w' := by
  obtain ⟨k, a, n, t, f, bad, e⟩ := o
  have h2 := fun cs t => h.below (below_first (w := w) (.cells cs t))
  unfold callV OpV.cells
  simp only []
  by_cases h0 : k = 0
  · subst h0
    rw [if_pos rfl]
    refine (call_write _ (writeV D a (bytesV f bad)).1 a n t f bad e w fs (fun w1 w2 => w.heap.size ≤ w1.heap.size ∧ Eff w1 b fs (writeV D a (bytesV f bad)).2 w2) h.lt (Lib.hid ?_)).mono ?_
    · intro w1 A c hB hR hA
      refine (write_any b D fs a A c _ w1 (h.below hB) ha hR (bytesV_bytes _ _) (fun ad had hf => ?_) hpl).mono ?_
      · have := hA ad had
        have := h.lt _ hf
        omega
      · rintro e2 w2 ⟨rfl, hE⟩
        refine ⟨rfl, ⟨hB.size, hE⟩, ?_⟩
        obtain ⟨_, _, hF, _⟩ := hE
        exact hF
    · rintro e2 w' ⟨rfl, w1, w2, g, hB, ⟨hs, fs', hD, hF, hN⟩, hF2, hg, hg2, hF3⟩
      refine ⟨rfl, fs', hD.frame hF3 (fun i hi e => ?_), ((Below.frame_ hB).same hF).trans hF3 (fun i hi => .inr (by omega)), fun i hi => (hN i hi).imp id (fun h => by omega)⟩
      subst e
      rcases hN i hi with h9 | h9
      · have := h.lt i h9
        omega
      · omega
  rw [if_neg h0]
  by_cases h1 : k = 1
  · subst h1
    rw [if_pos rfl]
    exact call_sync _ _ a n t f bad e w (fun w' => Eff w b fs (syncV D).2 w') (Lib.hid ((sync_any b D fs _ (h2 _ _) ha).mono fun e2 w2 h9 => ⟨h9.1, h9.2.first⟩))
  rw [if_neg h1]
  by_cases h3 : k = 2
  · subst h3
    rw [if_pos rfl]
    exact call_crash _ _ a n t f bad e w (fun w' => Eff w b fs (crashV D n t) w') (Lib.hid ((crash_any b D fs n t _ (h2 _ _)).mono fun e2 w2 h9 => ⟨h9.1, h9.2.first⟩))
  rw [if_neg h3]
  by_cases h4 : k = 3
  · subst h4
    rw [if_pos rfl]
    exact call_fail _ _ a n t f bad e w (fun w' => Eff w b fs (failV D n e).2 w') (Lib.hid ((fail_any b D fs n e _ (h2 _ _)).mono fun e2 w2 h9 => ⟨h9.1, (Eff.of h9.2.1 h9.2.2).first⟩))
  rw [if_neg h4]
  by_cases h5 : k = 4
  · subst h5
    rw [if_pos rfl]
    exact call_turn _ _ a n t f bad e w (fun w' => Eff w b fs (turnV D a t f).2 w') (Lib.hid ((turn_any b D fs a t f _ (h2 _ _) ho).mono fun e2 w2 h9 => ⟨h9.1, (Eff.of h9.2.1 h9.2.2).first⟩))
  rw [if_neg h5]
  refine (call_else _ k a n t f bad e w h0 h1 h3 h4 h5).mono ?_
  rintro e2 w2 ⟨rfl, rfl⟩
  exact ⟨rfl, (Eff.refl (h2 _ _)).first⟩
theorem call_no (p : Value) (o : OpV) (w : World) (h : NoDisk w p) (hk : 0 ≤ o.kind ∧ o.kind ≤ 4) : Calls Try.prog 15 #[p, .agg o.cells] w fun e w' => e = .returned (.int .i64 6) ∧ Below w.heap.size w w' := by
  obtain ⟨k, a, n, t, f, bad, e⟩ := o
  have hno : ∀ w', Below w.heap.size w w' → NoDisk w' p := by
    intro w' hB
    rcases h with rfl | ⟨b, rfl, hc⟩
    · exact .inl rfl
    · exact .inr ⟨b, rfl, pw_cell_below hB hc⟩
  have h2 := fun cs t => hno _ (below_first (w := w) (.cells cs t))
  unfold OpV.cells
  simp only [] at hk ⊢
  obtain rfl | rfl | rfl | rfl | rfl : k = 0 ∨ k = 1 ∨ k = 2 ∨ k = 3 ∨ k = 4 := by omega
  · refine (call_write _ 6 a n t f bad e w (fun _ => False) (fun w1 w2 => w1 = w2) (fun _ h => h.elim) (Lib.hid ?_)).mono ?_
    · intro w1 A c hB hR hA
      exact (write_no p a _ w1 (hno _ hB)).mono fun e2 w2 h9 => ⟨h9.1, h9.2, h9.2 ▸ Frame.refl _ _⟩
    · rintro e2 w' ⟨rfl, w1, w2, g, hB, rfl, hF2, hg, hg2, hF3⟩
      exact ⟨rfl, hB.trans (hF3.below (fun i hi => by omega) hB.size)⟩
  · exact call_sync _ _ a n t f bad e w _ (Lib.hid ((sync_no _ _ (h2 _ _)).mono fun e2 w2 h9 => ⟨h9.1, h9.2 ▸ below_first _⟩))
  · exact call_crash _ _ a n t f bad e w _ (Lib.hid ((crash_no _ _ _ _ (h2 _ _)).mono fun e2 w2 h9 => ⟨h9.1, h9.2 ▸ below_first _⟩))
  · exact call_fail _ _ a n t f bad e w _ (Lib.hid ((fail_no _ _ _ _ (h2 _ _)).mono fun e2 w2 h9 => ⟨h9.1, h9.2 ▸ below_first _⟩))
  · exact call_turn _ _ a n t f bad e w _ (Lib.hid ((turn_no _ _ _ _ _ (h2 _ _)).mono fun e2 w2 h9 => ⟨h9.1, h9.2 ▸ below_first _⟩))
end Go.Proofs.Ytfjeincceglfoaa
