/- kind: a builder's calls leave parameters that lie behind it. -/
import Derived.Test.YtdnehnjcbdkgcaaK11
namespace Go.Proofs.Ytdnehnjcbdkgcaa
set_option linter.unusedVariables false
set_option linter.unusedSimpArgs false
open Go.RowKit Go.Shelf Go.Proofs.YtdnehnjcbdkgcaaW.PrintWords

/-- Parameters in blocks stay. -/
def KpP (w w' : World) : Prop := ∀ (g : Nat) (cs : Array Value), w.heap[g]? = some (.cells cs 42 (0, 0)) → w'.heap[g]? = some (.cells cs 42 (0, 0))
theorem KpP.refl (w : World) : KpP w w := fun _ _ h => h
theorem KpP.trans {a b c : World} (h : KpP a b) (k : KpP b c) : KpP a c := fun g cs hg => k g cs (h g cs hg)
theorem KpP.alloc {a b : World} (h : KpP a b) (o : Obj) : KpP a (b.alloc o) := fun g cs hg => blk_alloc (h g cs hg) o
theorem KpP.below {a b : World} (h : Below a.heap.size a b) : KpP a b := fun g cs hg => blk_below hg h
theorem KpP.setCell {a b : World} (h : KpP a b) {g : Nat} {cs : Array Value} {t : TypeId} {f : Nat × Nat} (hb : b.heap[g]? = some (.cells cs t f)) (ht : t ≠ 42) (i : Nat) (u : Value) : KpP a (b.setCell ⟨g, i, none⟩ u) := fun g' cs' hg => by
  have h2 := h g' cs' hg
  refine blk_far h2 (fun e => ?_) u
  subst e
  rw [hb] at h2
  injection h2 with h2
  injection h2 with _ h3 _
  exact ht h3
theorem KpP.grown {a b c : World} {base size n : Nat} {e : TypeId} {v : Value} {xs : List Value} (h : KpP a b) (hg : b.grownBy c v.ownBlock) (ho : b.ownsRow base e size v n xs) (ht : e ≠ 42) : KpP a c := fun g cs hc => by
  have h2 := h g cs hc
  exact (hg.block g (blk_lt h2) (own_ne ho h2 ht)).trans h2
theorem bcheck2 (B b : Nat) (bs : List Value) (w : World) (h : Lib.IsBuilder 57 5 B b bs w) :
    Calls Try.prog 44 #[.pointer (some ⟨b, 0, none⟩)] w fun e w' => e = .returned (.tuple #[]) ∧ (Lib.BuilderAt 57 5 B b (.pointer (some ⟨b, 0, none⟩)) bs w' ∧ Below B w w' ∧ KpP w w') := by
  rcases h with h | h
  · refine (bcheck_fresh b w h.cell0 h.shape h.frozen0).mono ?_
    rintro e w' ⟨rfl, rfl⟩
    refine ⟨rfl, h.used _, (Below.refl B w).setCell (p := ⟨b, 0, none⟩) h.1 _, ?_⟩
    obtain ⟨_, v, h2, _⟩ := h
    exact (KpP.refl w).setCell h2 (by decide) 0 _
  · refine (bcheck_used b w h.cell0).mono ?_
    rintro e w' ⟨rfl, rfl⟩
    exact ⟨rfl, h, Below.refl B _, KpP.refl _⟩

set_option maxHeartbeats 2000000 in
set_option maxRecDepth 100000 in
theorem bwrite_byte2 (B b : Nat) (xs : List Int) (c : Int) (w : World) (h : Bld w B b xs) (hlen : xs.length + 1 ≤ 140737488355328) (hBw : B ≤ w.heap.size) :
    Calls Try.prog 34 #[.pointer (some ⟨b, 0, none⟩), .int .u8 c] w fun e w' => e = .returned .nilIface ∧ Bld w' B b (xs ++ [c]) ∧ Below B w w' ∧ KpP w w' := by
  obtain ⟨i0, hi, hz0, hz1, hz2⟩ := info_parts infoU8
  go_enter Try.func34, Try.ntmps34
  go_wp2_with (go_at_call 44; refine (bcheck2 B b _ _ h).mono ?_)
  rintro e w1 ⟨rfl, h1, hb1, hk1⟩
  obtain ⟨hB, v, hbk, hown, hne⟩ := h1
  have c0 : w1.cell? ⟨b, 0, none⟩ = some (.pointer (some ⟨b, 0, none⟩)) := by rw [Lib.cell_of_heap hbk]; rfl
  have c1 : w1.cell? ⟨b, 1, none⟩ = some v := by rw [Lib.cell_of_heap hbk]; rfl
  go_wp2_with (at_builtin; refine wpList_append_own _ rfl _ _ 39 rfl B 5 i0 (.int .u8 0) 1 1 Try.underlying39 hi hz0 hz1 hz2 rfl (by decide) _ _ _ rfl (hown.alloc _) ⟨w1.heap.size, 0, none⟩ 1 1 [.int .u8 c] rfl rfl ?c1 ?c2 ?c3 ?c4 ?c5 ?_)
  case c1 =>
    intro j u hj
    match j, hj with
    | 0, hj => simp at hj; subst hj; simp [Addr.add]
  case c2 => intro u hu; simp at hu; subst hu; rfl
  case c3 => rw [nums_length]; unfold maxLen; omega
  case c4 => rw [nums_length]; omega
  case c5 => have := hb1.size; simp; omega
  intro v' w2 hown' hgrow _
  have hlt : b < w1.heap.size := blk_lt hbk
  have hb2 : w2.heap[b]? = some (.cells #[.pointer (some ⟨b, 0, none⟩), v] 57 (0, 0)) := by
    rw [hgrow.block b (by simp; omega) (fun e => hne e.symm), Lib.alloc_old w1 _ b hlt]
    exact hbk
  have d0 : w2.cell? ⟨b, 0, none⟩ = some (.pointer (some ⟨b, 0, none⟩)) := by rw [Lib.cell_of_heap hb2]; rfl
  have d1 : w2.cell? ⟨b, 1, none⟩ = some v := by rw [Lib.cell_of_heap hb2]; rfl
  have f1 : w2.frozen? ⟨b, 1, none⟩ = false := Lib.frozen_of_heap hb2 1
  obtain ⟨g, cap, rfl⟩ : ∃ g cap, v' = .slice (some ⟨g, 0, none⟩) (xs.length + 1) cap := by
    rw [nums_length] at hown'
    rcases hown'.2 with ⟨_, h0⟩ | ⟨g, cap, cur, hv, _⟩
    · omega
    · exact ⟨g, cap, hv⟩
  go_wp2
  go_ret
  refine ⟨rfl, ?_, ?_, ?_⟩
  · have h9 := Lib.BuilderAt.put (T := 57) (e := 5) hB hb2 (bs' := nums .u8 (xs ++ [c])) (by rw [nums_append, List.length_append]; exact hown') (by decide)
    exact .inr h9
  · exact ((hb1.alloc (by have := hb1.size; omega) _).grown hgrow (by have := hb1.size; simp; omega) (fun k hk => (hown.lt k hk).1)).setCell (p := ⟨b, 1, none⟩) hB _
  · exact ((hk1.alloc _).grown hgrow (hown.alloc _) (by decide)).setCell hb2 (by decide) 1 _

set_option maxHeartbeats 2000000 in
set_option maxRecDepth 100000 in
theorem bwrite_string2 (B b : Nat) (xs : List Int) (s : ByteArray) (w : World) (h : Bld w B b xs) (hlen : xs.length + s.size ≤ 140737488355328) (hBw : B ≤ w.heap.size) :
    Calls Try.prog 32 #[.pointer (some ⟨b, 0, none⟩), .string s] w fun e w' => e = .returned (.tuple #[.int .i64 s.size, .nilIface]) ∧ Bld w' B b (xs ++ bytesOf s) ∧ Below B w w' ∧ KpP w w' := by
  obtain ⟨i0, hi, hz0, hz1, hz2⟩ := info_parts infoU8
  go_enter Try.func32, Try.ntmps32
  go_wp2_with (go_at_call 44; refine (bcheck2 B b _ _ h).mono ?_)
  rintro e w1 ⟨rfl, h1, hb1, hk1⟩
  obtain ⟨hB, v, hbk, hown, hne⟩ := h1
  have c0 : w1.cell? ⟨b, 0, none⟩ = some (.pointer (some ⟨b, 0, none⟩)) := by rw [Lib.cell_of_heap hbk]; rfl
  have c1 : w1.cell? ⟨b, 1, none⟩ = some v := by rw [Lib.cell_of_heap hbk]; rfl
  go_wp2_with (at_builtin; refine Lib.wpList_append_own_string _ rfl _ _ 39 9 rfl B 5 i0 Try.underlying39 Try.underlying9 hi hz0 hz1 hz2 _ _ _ rfl hown s rfl ?c3 ?c4 ?c5 ?_)
  case c3 => rw [nums_length]; unfold maxLen; omega
  case c4 => rw [nums_length]; omega
  case c5 => have := hb1.size; omega
  intro v' w2 hown' hgrow _
  have hlt : b < w1.heap.size := blk_lt hbk
  have hb2 : w2.heap[b]? = some (.cells #[.pointer (some ⟨b, 0, none⟩), v] 57 (0, 0)) := by
    rw [hgrow.block b hlt (fun e => hne e.symm)]
    exact hbk
  have d0 : w2.cell? ⟨b, 0, none⟩ = some (.pointer (some ⟨b, 0, none⟩)) := by rw [Lib.cell_of_heap hb2]; rfl
  have d1 : w2.cell? ⟨b, 1, none⟩ = some v := by rw [Lib.cell_of_heap hb2]; rfl
  have f1 : w2.frozen? ⟨b, 1, none⟩ = false := Lib.frozen_of_heap hb2 1
  obtain ⟨ao, n', cap, rfl⟩ : ∃ ao n' cap, v' = .slice ao n' cap := by
    rcases hown'.2 with ⟨hv, _⟩ | ⟨g, cap, cur, hv, _⟩
    · exact ⟨_, _, _, hv⟩
    · exact ⟨_, _, _, hv⟩
  go_wp2
  go_ret2
  refine ⟨rfl, ?_, ?_, ?_⟩
  · have h9 := Lib.BuilderAt.put (T := 57) (e := 5) hB hb2 (bs' := nums .u8 (xs ++ bytesOf s)) (by rw [nums_append, ← strCells_eq, List.length_append, Lib.strCells_length]; exact hown') (by decide)
    exact .inr h9
  · exact (hb1.grown hgrow (by have := hb1.size; omega) (fun k hk => (hown.lt k hk).1)).setCell (p := ⟨b, 1, none⟩) hB _
  · exact (hk1.grown hgrow hown (by decide)).setCell hb2 (by decide) 1 _
end Go.Proofs.Ytdnehnjcbdkgcaa
