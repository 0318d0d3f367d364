/- The disk: Read. -/
import Derived.Test.YtlmdghafiadgjaaDk3
import Derived.Deep.WholeRow
import Derived.Laws.Tables
namespace Go.Proofs.Ytlmdghafiadgjaa
open Go.RowKit Go.Proofs.YtlmdghafiadgjaaW.PrintWords
open Go.ChangeMaps (setBlock)

section
variable {P : Program} {ops : Array Oper} {rest : List Oper} {Q : Exit → Act → World → Prop} {d : Option Tmp} {x y : Operand} {ty ty' t : TypeId} {pos : String} {af : Array Edge} {a : Act} {w : World}
/-- Whole rows, as the walk meets them: a load. -/
theorem at_load_row (g : Nat) (cs : Array Value) (fr : Nat × Nat) (de : TypeDesc) (hg : w.heap[g]? = some (.cells cs t fr)) (hu : P.underlying ty = some de) (hi : (P.info? ty).map (·.size) = some cs.size) (hd : (match de with | .struct _ | .array _ _ => true | _ => false) = true)
    (hx : a.eval x = .pointer (some ⟨g, 0, none⟩)) (h : wpList P ops Q rest (a.put d (.agg cs)) w) : wpList P ops Q (⟨d, .load ty x, ty', pos, af, none⟩ :: rest) a w :=
  wpList_load_row rfl ty x rfl g hx t cs fr de hg hu hd hi h
theorem at_load_mid (g o : Nat) (cs : List Value) (de : TypeDesc) (hg : w.rangeAt g o cs) (hu : P.underlying ty = some de) (hi : (P.info? ty).map (·.size) = some cs.length) (hd : de.isRow = true)
    (hx : a.eval x = .pointer (some ⟨g, o, none⟩)) (h : wpList P ops Q rest (a.put d (.agg cs.toArray)) w) : wpList P ops Q (⟨d, .load ty x, ty', pos, af, none⟩ :: rest) a w :=
  wpList_load_mid rfl ty x rfl g o hx cs de hg hu hd hi h
/-- A store into the block that was made last. -/
theorem at_store_new (W0 : World) (c c' : Array Value) (hi : (P.info? ty).map (·.size) = some c'.size) (hs : c.size = c'.size) (h1 : c'.all (·.oneCell') = true)
    (hx : a.eval x = .pointer (some ⟨W0.heap.size, 0, none⟩)) (hy : a.eval y = .agg c')
    (h : wpList P ops Q rest (a.put d undef) (W0.alloc (.cells c' t))) : wpList P ops Q (⟨d, .store ty x y, ty', pos, af, none⟩ :: rest) a (W0.alloc (.cells c t)) := by
  refine wpList_store_row rfl ty x y rfl W0.heap.size c' hx hy t c (heap_alloc_last W0 _) hi hs h1 ?_
  rw [World.setRow_alloc_new]; exact h
theorem at_store_row (g : Nat) (c c' : Array Value) (hg : w.heap[g]? = some (.cells c t (0, 0))) (hi : (P.info? ty).map (·.size) = some c'.size) (hs : c.size = c'.size) (h1 : c'.all (·.oneCell') = true)
    (hx : a.eval x = .pointer (some ⟨g, 0, none⟩)) (hy : a.eval y = .agg c')
    (h : wpList P ops Q rest (a.put d undef) (w.setRow g c')) : wpList P ops Q (⟨d, .store ty x y, ty', pos, af, none⟩ :: rest) a w :=
  wpList_store_row rfl ty x y rfl g c' hx hy t c hg hi hs h1 h
end
theorem setRow_heap (W : World) (g : Nat) (cs cs' : Array Value) (t : TypeId) (h : W.heap[g]? = some (.cells cs t (0, 0))) : (W.setRow g cs').heap[g]? = some (.cells cs' t (0, 0)) := by
  simp only [World.setRow, Array.getElem?_modify, if_true, h, Option.map_some]
theorem setRow_other (W : World) (g i : Nat) (cs' : Array Value) (h : i ≠ g) : (W.setRow g cs').heap[i]? = W.heap[i]? := by
  simp only [World.setRow, Array.getElem?_modify, if_neg (Ne.symm h)]
theorem below_setRow {B : Nat} {w W : World} (h : Below B w W) {g : Nat} (hg : B ≤ g) (cs : Array Value) : Below B w (W.setRow g cs) :=
  ⟨h.os, h.tape, h.output, by have := h.size; simpa [World.setRow] using this, fun k hk => (setRow_other W g k cs (by omega)).trans (h.block k hk)⟩
theorem nums_all (xs : List Int) : (nums .u8 xs).toArray.all (·.oneCell') = true := by
  rw [Array.all_eq_true_iff_forall_mem]; intro v hv
  simp only [nums, List.mem_toArray, List.mem_map] at hv
  obtain ⟨x, _, rfl⟩ := hv
  rfl
theorem wcells_all (p : Int × List Int) : (wcells p).toArray.all (·.oneCell') = true := by
  rw [Array.all_eq_true_iff_forall_mem]; intro v hv
  simp only [wcells, nums, List.mem_toArray, List.mem_cons, List.mem_map] at hv
  rcases hv with rfl | ⟨x, _, rfl⟩ <;> rfl
theorem infoWr : (Try.prog.info? 89).map (fun i => (i.zero, i.size, i.bytes)) = some (some (.agg (wcells (0, z256)).toArray), 257, 264) := by kernel_rfl
theorem infoWr' (p : Int × List Int) (h : p.2.length = 256) : (Try.prog.info? 89).map (·.size) = some (wcells p).toArray.size := by
  have h2 : (Try.prog.info? 89).map (·.size) = some 257 := by kernel_rfl
  rw [h2]; simp [wcells, nums, h]
theorem infoWrL (p : Int × List Int) (h : p.2.length = 256) : (Try.prog.info? 89).map (·.size) = some (wcells p).length := by
  have h2 : (Try.prog.info? 89).map (·.size) = some 257 := by kernel_rfl
  rw [h2]; simp [wcells, nums, h]
theorem infoBlkL (xs : List Int) (h : xs.length = 256) : (Try.prog.info? 87).map (·.size) = some (nums .u8 xs).length := infoBlk.trans (by simp [nums, h])
theorem zero_wr (W : World) : (zeroValue 89).run Try.prog W = .ok (.agg (wcells (0, z256)).toArray) W := by kernel_rfl
/-- A write in a list of those that are pending. -/
theorem wcells_at {ps : List (Int × List Int)} (h : ∀ p ∈ ps, p.2.length = 256) {i : Nat} (hi : i < ps.length) (j : Nat) (v : Value) (hv : (wcells ps[i])[j]? = some v) : (ps.flatMap wcells)[i * 257 + j]? = some v := by
  induction ps generalizing i with
  | nil => simp at hi
  | cons p ps ih =>
    have hl : (wcells p).length = 257 := by simp [wcells, nums, h p (by simp)]
    rw [List.flatMap_cons]
    rcases i with _ | i
    · have hj : j < 257 := by
        rw [← hl]
        rcases Nat.lt_or_ge j (wcells p).length with h2 | h2
        · exact h2
        · simp only [List.getElem_cons_zero] at hv
          rw [List.getElem?_eq_none h2] at hv; cases hv
      rw [Nat.zero_mul, Nat.zero_add, List.getElem?_append_left (by omega)]
      exact hv
    · rw [List.getElem?_append_right (by omega), hl, show (i + 1) * 257 + j - 257 = i * 257 + j by omega]
      exact ih (fun q hq => h q (by simp [hq])) (by simp at hi; omega) hv
theorem pend_range {w : World} {g n c : Nat} {ps : List (Int × List Int)} (hp : PendAt w (.slice (some ⟨g, 0, none⟩) n c) ps) (ho : ∀ p ∈ ps, Blk p.2) {i : Nat} (hi : i < ps.length) : w.rangeAt g (i * 257) (wcells ps[i]) := by
  intro j v hv
  have h := hp.cells (g := g) rfl (i * 257 + j) v (wcells_at (fun p hp => (ho p hp).1) hi j v hv)
  rwa [show (⟨g, 0, none⟩ : Addr).add (i * 257 + j) = ⟨g, i * 257 + j, none⟩ from by unfold Addr.add; split <;> simp_all] at h
theorem own_form {w : World} {base n size : Nat} {e : TypeId} {v : Value} {xs : List Value} (h : w.ownsRow base e size v n xs) (h0 : 0 < n) : ∃ g cap, v = .slice (some ⟨g, 0, none⟩) n cap ∧ n ≤ cap := by
  rcases h.2 with ⟨_, h2⟩ | ⟨g, cap, cur, he, _, _, h3, _⟩
  · omega
  · exact ⟨g, cap, he, h3⟩
theorem own_max {w : World} {base n size : Nat} {e : TypeId} {v : Value} {xs : List Value} (h : w.ownsRow base e size v n xs) : n ≤ 9223372036854775807 := by
  rcases h.2 with ⟨_, h2⟩ | ⟨g, cap, cur, he, _, _, h3, h4, _⟩
  · omega
  · simp only [maxLen] at h4; omega
theorem PendAt.below_ {w w' : World} {v : Value} {ps : List (Int × List Int)} (h : PendAt w v ps) (hb : Below w.heap.size w w') : PendAt w' v ps := pw_own_below h hb
theorem reads_blk (k : IntKind) {w : World} {g : Nat} {xs : List Int} {t : TypeId} {fr : Nat × Nat} (h : w.heap[g]? = some (.cells (nums k xs).toArray t fr)) (hl : xs.length ≤ 9223372036854775807 := by omega) : ReadsInt w k (some ⟨g, 0, none⟩) xs.length xs := by
  refine ⟨rfl, hl, fun _ => ⟨_, rfl, fun j hj => ?_⟩⟩
  rw [show (⟨g, 0, none⟩ : Addr).add j = ⟨g, j, none⟩ from by unfold Addr.add; split <;> simp_all]
  refine (cell_of_row _ _ j _ _ _ h).trans ?_
  simp [nums, List.getD_eq_getElem?_getD, List.getElem?_eq_getElem hj]
/-- The bytes behind some writes. -/
def nowP : List (Int × List Int) → Int → List Int → List Int
  | [], _, b => b
  | p :: ps, i, b => nowP ps i (if p.1 = i then p.2 else b)
theorem nowP_snoc (ps : List (Int × List Int)) (p : Int × List Int) (i : Int) (b : List Int) : nowP (ps ++ [p]) i b = if p.1 = i then p.2 else nowP ps i b := by
  induction ps generalizing b with
  | nil => rfl
  | cons q ps ih => rw [List.cons_append, nowP, ih, nowP]
theorem nowP_blk {ps : List (Int × List Int)} (h : ∀ p ∈ ps, Blk p.2) (i : Int) (b : List Int) (hb : Blk b) : Blk (nowP ps i b) := by
  induction ps generalizing b with
  | nil => exact hb
  | cons q ps ih =>
    rw [nowP]
    refine ih (fun p hp => h p (by simp [hp])) _ ?_
    split
    · exact h q (by simp)
    · exact hb
def readV (D : DS) (i : Int) : List Int := nowP D.pend i (D.sure i)
def ReadPost (w : World) (xs : List Int) (c : Int) (e : Ending) (w' : World) : Prop := ∃ v, e = .returned (.tuple #[v, .int .i64 c]) ∧ ORow .u8 5 w' w.heap.size v xs ∧ Below w.heap.size w w'
set_option maxRecDepth 100000 in
set_option maxHeartbeats 1000000 in
theorem read_bad (b : Nat) (D : DS) (fs : Nat → Prop) (i : Int) (w : World) (h : DiskAt w b D fs) (hv : hasV D.size i ≠ 0) :
    Calls Try.prog 55 #[.pointer (some ⟨b, 0, none⟩), .int .i64 i] w fun e w' => e = .returned (.tuple #[.slice none 0 0, .int .i64 (hasV D.size i)]) ∧ w = w' := by
  have ho := h.ok
  obtain ⟨r, v, hb, _⟩ := h
  have c0 : w.cell? ⟨b, 0, none⟩ = some (.int .i64 D.size) := (blk_cell hb 0).trans rfl
  have HH := Lib.hid (has_any b D.size i w c0 ho.pos)
  have b1 : (hasV D.size i != 0) = true := bne_iff_ne.mpr hv
  clear hb ho hv
  generalize hasV D.size i = hh at *
  go_enter Try.func55, Try.ntmps55
  go_wp2_with (first | (go_at_call 61; ((with_reducible refine HH.out.mono ?_); rintro e w1 ⟨rfl, rfl⟩)))
  go_ret2
  exact ⟨rfl, rfl⟩
set_option maxRecDepth 100000 in
set_option maxHeartbeats 4000000 in
theorem read_ok (b : Nat) (D : DS) (fs : Nat → Prop) (i : Int) (w : World) (h : DiskAt w b D fs) (hv : hasV D.size i = 0) :
    Calls Try.prog 55 #[.pointer (some ⟨b, 0, none⟩), .int .i64 i] w (ReadPost w (readV D i) 0) := by
  obtain ⟨r, v, hb, ⟨F, hm, hF⟩, hp, hf, ho⟩ := h
  obtain ⟨A, c, rfl⟩ := own_slice hp
  have c0 : w.cell? ⟨b, 0, none⟩ = some (.int .i64 D.size) := (blk_cell hb 0).trans rfl
  have c1 : w.cell? ⟨b, 1, none⟩ = some (.map (some r)) := (blk_cell hb 1).trans rfl
  have c2 : (w.alloc (.cells (nums .u8 (D.sure i)).toArray 87)).cell? ⟨b, 2, none⟩ = some (.slice A D.pend.length c) := pw_cell_below (below_first _) ((blk_cell hb 2).trans rfl)
  have HH := Lib.hid (has_any b D.size i w c0 ho.pos)
  rw [hv] at HH
  have hz := zero_blk
  unfold blk at hz
  have hzw := zero_wr
  have hsi : (D.sure i).length = 256 := (ho.sure i).1
  have hlk := hm.lookup (P := Try.prog) Try.underlying35 Try.underlying3 i (blk z256) (zero_blk w)
  rw [hF i] at hlk
  unfold blk at hlk
  have HS0 : Hid ((nums .u8 z256).toArray.size = (nums .u8 (D.sure i)).toArray.size) := Lib.hid (by simp [nums, hsi, z256_len])
  have HP := Lib.hid hp
  have HO := Lib.hid ho
  clear hb hm hF hf hp ho hv
  go_enter Try.func55, Try.ntmps55
  go_wp2_with (first
    | (go_at_call 61; ((with_reducible refine HH.out.mono ?_); rintro e w1 ⟨rfl, rfl⟩))
    | ((with_reducible refine at_store_new (x := .tmp 7) (y := .tmp 21) w _ (nums .u8 (D.sure i)).toArray (infoBlk' _ hsi) HS0.out (nums_all _) ?_ ?_ ?_); rfl; rfl))
  have HW0 := Lib.hid (below_first (w := w) (.cells (nums .u8 (D.sure i)).toArray 87))
  have HB0 : Hid ((w.alloc (.cells (nums .u8 (D.sure i)).toArray 87)).heap[w.heap.size]? = some (.cells (nums .u8 (D.sure i)).toArray 87 (0, 0))) := Lib.hid (heap_alloc_last w _)
  go_loopw [27] (fun s27 wr => ∃ k : Nat, k ≤ D.pend.length ∧ s27 = .int .i64 k ∧ Hid (Below w.heap.size w wr) ∧ Hid (wr.heap[w.heap.size]? = some (.cells (nums .u8 (nowP (D.pend.take k) i (D.sure i))).toArray 87 (0, 0)))) (fun s27 _ => D.pend.length - (intOf s27).toNat)
  case atStart => exact ⟨0, Nat.zero_le _, rfl, HW0, HB0⟩
  case round =>
    obtain ⟨k, hk, rfl, HW, HB⟩ := hrel
    have hnm : D.pend.length ≤ 9223372036854775807 := own_max HP.out
    by_cases hlt : k < D.pend.length
    · obtain ⟨g, rfl⟩ : ∃ g, A = some ⟨g, 0, none⟩ := by
        obtain ⟨g, cap, he, _⟩ := own_form HP.out (by omega)
        injection he with h1
        exact ⟨g, h1⟩
      have hrg := pend_range (HP.out.below_ HW.out) HO.out.pend hlt
      have hpb := HO.out.pend D.pend[k] (List.getElem_mem hlt)
      have HTK : Hid (nowP (D.pend.take (k + 1)) i (D.sure i) = if D.pend[k].1 = i then D.pend[k].2 else nowP (D.pend.take k) i (D.sure i)) := Lib.hid (by rw [List.take_succ_eq_append_getElem hlt, nowP_snoc])
      have hcur : (nowP (D.pend.take k) i (D.sure i)).length = 256 := (nowP_blk (fun p hp => HO.out.pend p (List.mem_of_mem_take hp)) i _ (HO.out.sure i)).1
      generalize nowP (D.pend.take k) i (D.sure i) = cur at *
      generalize D.pend[k] = p at *
      obtain ⟨pa, pb⟩ := p
      have hpl : pb.length = 256 := hpb.1
      have hN := heap_alloc_last wr (.cells (wcells (pa, pb)).toArray 89)
      have hc0 : (wr.alloc (.cells (wcells (pa, pb)).toArray 89)).cell? ⟨wr.heap.size, 0, none⟩ = some (.int .i64 pa) := (blk_cell hN 0).trans rfl
      have hrN : (wr.alloc (.cells (wcells (pa, pb)).toArray 89)).rangeAt wr.heap.size 1 (nums .u8 pb) := by
        intro j v hv
        refine (blk_cell hN (1 + j)).trans ?_
        simp only [wcells, List.getElem?_toArray]
        rw [show 1 + j = j + 1 by omega, List.getElem?_cons_succ]; exact hv
      have HWN := Lib.hid (below_alloc HW.out (.cells (wcells (pa, pb)).toArray 89))
      have HBN : Hid ((wr.alloc (.cells (wcells (pa, pb)).toArray 89)).heap[w.heap.size]? = some (.cells (nums .u8 cur).toArray 87 (0, 0))) := Lib.hid ((heap_alloc_old _ _ (blk_lt HB.out)).trans HB.out)
      have HSZ : Hid ((wcells (0, z256)).toArray.size = (wcells (pa, pb)).toArray.size) := Lib.hid (by simp [wcells, nums, hpl, z256_len])
      have HSB : Hid ((nums .u8 cur).toArray.size = (nums .u8 pb).toArray.size) := Lib.hid (by simp [nums, hpl, hcur])
      clear hN hpb hcur
      by_cases hpi : pa = i
      · have HNX : Hid (nowP (D.pend.take (k + 1)) i (D.sure i) = pb) := Lib.hid (HTK.out.trans (if_pos hpi))
        have b1 : (pa == i) = true := beq_iff_eq.mpr hpi
        clear hpi HTK
        go_wp2_with (first
          | ((with_reducible refine at_load_mid (x := .tmp 29) (d := some 30) g (k * 257) (wcells (pa, pb)) _ hrg Try.underlying89 (infoWrL (pa, pb) hpl) rfl ?_ ?_); rfl)
          | ((with_reducible refine at_store_new (x := .tmp 9) (y := .tmp 30) wr _ (wcells (pa, pb)).toArray (infoWr' (pa, pb) hpl) HSZ.out (wcells_all _) ?_ ?_ ?_); rfl; rfl)
          | ((with_reducible refine at_load_mid (x := .tmp 35) (d := some 36) wr.heap.size 1 (nums .u8 pb) _ hrN Try.underlying87 (infoBlkL pb hpl) rfl ?_ ?_); rfl)
          | ((with_reducible refine at_store_row (x := .tmp 7) (y := .tmp 36) w.heap.size (nums .u8 cur).toArray (nums .u8 pb).toArray HBN.out (infoBlk' pb hpl) HSB.out (nums_all _) ?_ ?_ ?_); rfl; rfl))
        go_roundw
        case rel => exact ⟨k + 1, hlt, by go_num, Lib.hid (below_setRow HWN.out (Nat.le_refl _) _), Lib.hid (by rw [HNX.out]; exact setRow_heap _ _ _ _ _ HBN.out)⟩
        case measure => simp [intOf]; omega
      · have HNX : Hid (nowP (D.pend.take (k + 1)) i (D.sure i) = cur) := Lib.hid (HTK.out.trans (if_neg hpi))
        have b1 : (pa == i) = false := beq_eq_false_iff_ne.mpr hpi
        clear hpi HTK
        go_wp2_with (first
          | ((with_reducible refine at_load_mid (x := .tmp 29) (d := some 30) g (k * 257) (wcells (pa, pb)) _ hrg Try.underlying89 (infoWrL (pa, pb) hpl) rfl ?_ ?_); rfl)
          | ((with_reducible refine at_store_new (x := .tmp 9) (y := .tmp 30) wr _ (wcells (pa, pb)).toArray (infoWr' (pa, pb) hpl) HSZ.out (wcells_all _) ?_ ?_ ?_); rfl; rfl))
        go_roundw
        case rel => exact ⟨k + 1, hlt, by go_num, HWN, Lib.hid (by rw [HNX.out]; exact HBN.out)⟩
        case measure => simp [intOf]; omega
    · have HE : Hid (nowP (D.pend.take k) i (D.sure i) = readV D i) := Lib.hid (by rw [List.take_of_length_le (by omega)]; rfl)
      rw [HE.out] at HB
      have hrl : (readV D i).length = 256 := (nowP_blk HO.out.pend i _ (HO.out.sure i)).1
      generalize readV D i = cur at *
      have HRD := Lib.hid (reads_blk .u8 HB.out)
      have HLB : Hid ((0 + cur.length) * 1 ≤ 140737488355328) := Lib.hid (by rw [hrl]; decide)
      rw [hrl] at HRD
      go_wp2_with (first
        | (at_builtin; refine print_append_row (w0 := w) w.heap.size rfl (.const (.slice none 0 0)) (.tmp 38) 23 5 .u8 1 rfl Try.underlying23 infoU8 (by decide) (.slice none 0 0) [] cur _ _ _ rfl rfl (ORow.nil _ _ _ _) HRD.out HW.out HW.out.size (by rw [← hrl]; exact HLB.out) ?_; intro v4 w4 hO4 hb4 _ _; have HO4 : Hid (ORow .u8 5 w4 w.heap.size v4 cur) := Lib.hid hO4; have HW4 := Lib.hid hb4; clear hO4 hb4))
      go_ret2
      exact ⟨v4, rfl, HO4.out, HW4.out⟩
end Go.Proofs.Ytlmdghafiadgjaa
