/- Bytes of a block that bears a conversion's mark; a text with small letters, in plain terms. -/
import Derived.Test.YtdnehnjcbdkgcaaEv
namespace Go.Proofs.Ytdnehnjcbdkgcaa
open Go.RowKit Go.Proofs.YtdnehnjcbdkgcaaW.PrintWords

def lowC (c : Int) : Int := if 65 ≤ c ∧ c ≤ 90 then c + 32 else c
def lowL (l : List Int) : List Int := l.map lowC
def lowS (s : ByteArray) : ByteArray := strOfNums (lowL (bytesOf s))
theorem bytesOf_bytes (s : ByteArray) : Bytes (bytesOf s) := by
  intro x hx
  simp only [bytesOf, List.mem_map] at hx
  obtain ⟨b, _, rfl⟩ := hx
  have := b.toNat_lt
  omega
theorem lowC_range {c : Int} (h0 : 0 ≤ c) (h1 : c ≤ 255) : 0 ≤ lowC c ∧ lowC c ≤ 255 := by unfold lowC; split <;> omega
theorem lowL_length (l : List Int) : (lowL l).length = l.length := by simp [lowL]
theorem lowL_bytes {l : List Int} (h : Bytes l) : Bytes (lowL l) := by
  intro x hx
  simp only [lowL, List.mem_map] at hx
  obtain ⟨c, hc, rfl⟩ := hx
  exact lowC_range (h c hc).1 (h c hc).2
/-- Bytes in a block, whatever its mark behind them. -/
def BlkB (w : World) (g : Nat) (xs : List Int) : Prop :=
  ∃ cur t lo hi, w.heap[g]? = some (.cells cur t (lo, hi)) ∧ xs.length ≤ lo ∧ xs.length ≤ 9223372036854775807 ∧ ∀ j, j < xs.length → cur[j]? = some (.int .u8 (rd xs (j : Int)))
theorem BlkB.cell {w : World} {g : Nat} {xs : List Int} (h : BlkB w g xs) (j : Nat) (hj : j < xs.length) : w.cell? ⟨g, j, none⟩ = some (.int .u8 (rd xs (j : Int))) ∧ w.frozen? ⟨g, j, none⟩ = false := by
  obtain ⟨cur, t, lo, hi, hb, hlo, _, hc⟩ := h
  constructor
  · simp [World.cell?, hb, hc j hj]
  · simp [World.frozen?, hb]; omega
theorem BlkB.reads {w : World} {g : Nat} {xs : List Int} (h : BlkB w g xs) : ReadsInt w .u8 (some ⟨g, 0, none⟩) xs.length xs := by
  refine ⟨rfl, ?_, fun _ => ⟨_, rfl, fun j hj => ?_⟩⟩
  · obtain ⟨_, _, _, _, _, _, hm, _⟩ := h; exact hm
  · rw [add_plain, (h.cell j hj).1, rd_lt xs j hj]; simp [List.getD_eq_getElem?_getD, hj]
theorem BlkB.lt {w : World} {g : Nat} {xs : List Int} (h : BlkB w g xs) : g < w.heap.size := by
  obtain ⟨cur, t, lo, hi, hb, _⟩ := h; exact blk_lt hb
theorem BlkB.below {w w' : World} {g : Nat} {xs : List Int} (h : BlkB w g xs) (hB : Below w.heap.size w w') : BlkB w' g xs := by
  have hl := h.lt
  obtain ⟨cur, t, lo, hi, hb, r⟩ := h
  exact ⟨cur, t, lo, hi, (hB.block g hl).trans hb, r⟩
theorem heap_set_any {w : World} {g : Nat} {cs : Array Value} {t : TypeId} {f : Nat × Nat} (h : w.heap[g]? = some (.cells cs t f)) (i : Nat) (u : Value) : (w.setCell ⟨g, i, none⟩ u).heap[g]? = some (.cells (cs.setIfInBounds i u) t f) := by
  simp [World.setCell, Array.getElem?_modify, h]
theorem BlkB.set {w : World} {g : Nat} {xs : List Int} (h : BlkB w g xs) (i : Nat) (x : Int) : BlkB (w.setCell ⟨g, i, none⟩ (.int .u8 x)) g (xs.set i x) := by
  obtain ⟨cur, t, lo, hi, hb, h1, h2, h3⟩ := h
  refine ⟨_, t, lo, hi, heap_set_any hb i _, by simpa using h1, by simpa using h2, fun j hj => ?_⟩
  rw [List.length_set] at hj
  rw [Array.getElem?_setIfInBounds]
  by_cases e : i = j
  · subst e
    have hlt : i < cur.size := by
      rcases Nat.lt_or_ge i cur.size with h | h
      · exact h
      · have := h3 i hj; rw [Array.getElem?_eq_none h] at this; cases this
    simp [hlt, rd, hj]
  · simp only [e, if_false]
    rw [h3 j hj]
    simp [rd, List.getD_eq_getElem?_getD, List.getElem?_set, e]
theorem blkB_new (W : World) (e : TypeId) (s : ByteArray) (hs : s.size ≤ 9223372036854775807) : BlkB (Lib.bytesWorld W e s) W.heap.size (bytesOf s) := by
  refine ⟨_, e, _, _, Lib.bytesWorld_at_new W e s, ?_, by rw [bytesOf_length]; exact hs, fun j hj => ?_⟩
  · rw [bytesOf_length]; simp only [Lib.bytesCells, Array.size_append, Array.size_map]; exact Nat.le_add_right _ _
  · have h := Lib.bytesWorld_cell W e s j (by rw [← bytesOf_length]; exact hj)
    simp only [World.cell?, Lib.bytesWorld_at_new] at h
    rw [rd_lt _ j hj]
    refine Eq.trans h ?_
    have h' : j < s.data.toList.length := by simpa [bytesOf] using hj
    simp [bytesOf, List.getD_eq_getElem?_getD, List.getElem?_eq_getElem h']
/-- Those below k are done. -/
def lowK (k : Nat) (l : List Int) : List Int := lowL (l.take k) ++ l.drop k
theorem lowK_length (k : Nat) (l : List Int) : (lowK k l).length = l.length := by simp [lowK, lowL]; omega
theorem lowK_zero (l : List Int) : lowK 0 l = l := by simp [lowK, lowL]
theorem lowK_full (l : List Int) : lowK l.length l = lowL l := by simp [lowK]
theorem lowK_at (k : Nat) (l : List Int) (h : k < l.length) : rd (lowK k l) (k : Int) = rd l (k : Int) := by
  have hk : (lowL (l.take k)).length = k := by rw [lowL_length, List.length_take]; omega
  simp only [rd, lowK, List.getD_eq_getElem?_getD, Int.toNat_natCast]
  rw [List.getElem?_append_right (by omega), hk, Nat.sub_self, List.getElem?_drop, Nat.add_zero]
theorem lowK_set (k : Nat) (l : List Int) (h : k < l.length) (x : Int) (hx : lowC (rd l (k : Int)) = x) : (lowK k l).set k x = lowK (k + 1) l := by
  subst hx
  rw [rd_lt l k h]
  unfold lowK lowL
  have hk : ((l.take k).map lowC).length = k := by simp; omega
  rw [List.set_append_right _ _ (by omega), hk, Nat.sub_self, List.take_succ_eq_append_getElem h, List.drop_eq_getElem_cons h, List.set_cons_zero, List.map_append]
  simp
theorem lowK_same (k : Nat) (l : List Int) (h : k < l.length) (hx : lowC (rd l (k : Int)) = rd l (k : Int)) : lowK k l = lowK (k + 1) l := by
  rw [← lowK_set k l h _ hx]
  have h2 := lowK_at k l h
  rw [rd_lt _ k (by rw [lowK_length]; exact h)] at h2
  rw [← h2, List.set_getElem_self]
end Go.Proofs.Ytdnehnjcbdkgcaa
