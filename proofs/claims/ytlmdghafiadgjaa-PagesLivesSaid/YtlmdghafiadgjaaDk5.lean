/- The disk: Write. -/
import Derived.Test.YtlmdghafiadgjaaDk4
import Derived.Test.YtlmdghafiadgjaaWLast
import Derived.Great.BuildSlice
import Derived.Great.FillDense
import Derived.Laws.CopyOwn
namespace Go.Proofs.Ytlmdghafiadgjaa
set_option linter.unusedVariables false
set_option linter.unusedSimpArgs false
open Go.RowKit Go.Proofs.YtlmdghafiadgjaaW.PrintWords
open Go.ChangeMaps (setBlock)
open Go.Proofs.YtlmdghafiadgjaaW.PrintLast

section
variable {P : Program} {ops : Array Oper} {rest : List Oper} {Q : Exit → Act → World → Prop} {d : Option Tmp} {x y : Operand} {ty ty' t dT sT el : TypeId} {pos : String} {af : Array Edge} {a : Act} {w : World}
theorem at_build {parts : Array (Nat × Operand)} (v : Value) (hrun : ∀ W, (Instr.build ty (parts.map fun (i, x) => (i, a.eval x))).run P W = .ok v W) (h : wpList P ops Q rest (a.put d v) w) : wpList P ops Q (⟨d, .build ty parts, ty', pos, af, none⟩ :: rest) a w := by
  refine wpList_plain rfl fun K hK => ?_
  unfold Oper.wp execOp
  simp only [Sem.run_bind, hrun, Result.andThen_ok]
  exact hK _ _ h
/-- A copy into the block that was made last. -/
theorem at_copy_new (W0 : World) (cur : Array Value) (res : List Value) (off dLen dCap sLen sCap : Nat) (ad : Addr) (cs : List Value) (hu : P.underlying dT = some (.slice el)) (hsz : (P.info? el).map (·.size) = some 1)
    (hn : cs.length = Nat.min sLen dLen) (hsrc : ∀ j v, cs[j]? = some v → (W0.alloc (.cells cur t)).cell? (ad.add j) = some v) (hfit : off + cs.length ≤ cur.size) (h1 : ∀ v ∈ cs, v.oneCell' = true) (hres : res = cur.toList.take off ++ (cs ++ cur.toList.drop (off + cs.length)))
    (hd : a.eval x = .slice (some ⟨W0.heap.size, off, none⟩) dLen dCap) (hs : a.eval y = .slice (some ad) sLen sCap)
    (h : wpList P ops Q rest (a.put d (goInt cs.length)) (W0.alloc (.cells res.toArray t))) : wpList P ops Q (⟨d, .call { callee := .builtin .copy, args := #[x, y], argTypes := #[dT, sT] }, ty', pos, af, none⟩ :: rest) a (W0.alloc (.cells cur t)) := by
  refine wpList_copy_own rfl x y dT sT rfl el hu hsz W0.heap.size off dLen dCap ad sLen sCap hd hs cur t (heap_alloc_last W0 _) cs hn hsrc hfit h1 ?_
  rw [World.setRow_alloc_new, ← hres]; exact h
end
theorem build_wr (i : Int) (W : World) : (Instr.build 89 #[(0, .int .i64 i)]).run Try.prog W = .ok (.agg (wcells (i, z256)).toArray) W := by kernel_rfl
theorem zwr_size : (Value.agg (wcells (0, z256)).toArray).cells.size = 257 := by
  show (wcells (0, z256)).toArray.size = 257
  simp [wcells, nums, z256_len]
theorem wcells_len (p : Int × List Int) (h : p.2.length = 256) : (wcells p).length = 257 := by simp [wcells, nums, h]
theorem wcells_one (p : Int × List Int) : ∀ u ∈ wcells p, u.oneCell' = true := by
  intro v hv
  simp only [wcells, nums, List.mem_cons, List.mem_map] at hv
  rcases hv with rfl | ⟨x, _, rfl⟩ <;> rfl
theorem nums_one (xs : List Int) : ∀ u ∈ nums .u8 xs, u.oneCell' = true := by
  intro v hv
  simp only [nums, List.mem_map] at hv
  obtain ⟨x, _, rfl⟩ := hv; rfl
theorem slice_wr (cs : Array Value) (hl : cs.size = 257) (W : World) : (Instr.buildSlice 36 1 #[(0, .agg cs)]).run Try.prog W = .ok (.slice (some ⟨W.heap.size, 0, none⟩) 1 1) (W.alloc (.cells cs 89)) := by
  have hi := infoWr
  obtain ⟨ie, hie, hz⟩ := Option.map_eq_some_iff.1 hi
  simp only [Prod.mk.injEq] at hz
  obtain ⟨hz1, hz2, hz3⟩ := hz
  refine run_buildSlice W _ 89 1 _ _ ie _ Try.underlying36 hie hz1 (by rw [hz2]; decide) (by rw [hz2]; decide) ?_
  rw [hz2]
  have h2 := Great.fill_whole (s := 257) (by decide) [.agg cs] ((Array.range (1 * 257)).map ((Value.agg (wcells (0, z256)).toArray).cells[· % (Value.agg (wcells (0, z256)).toArray).cells.size]!)) (by
    intro v hv
    simp only [List.mem_singleton] at hv
    subst hv
    exact hl) (by simp)
  have h3 : (([Value.agg cs] : List Value).flatMap fun v => v.cells.toList).toArray = cs := by
    show (cs.toList ++ []).toArray = _
    simp
  rw [h3] at h2
  exact h2
theorem reads_frame {fs : Nat → Prop} {w w1 : World} {k : IntKind} {A : Option Addr} {n : Nat} {xs : List Int} (h : ReadsInt w k A n xs) (hf : Frame fs w w1) (hA : ∀ ad, A = some ad → ¬ fs ad.block) : ReadsInt w1 k A n xs := by
  obtain ⟨h1, h2, h3⟩ := h
  refine ⟨h1, h2, fun h0 => ?_⟩
  obtain ⟨ad, rfl, h4⟩ := h3 h0
  refine ⟨ad, rfl, fun j hj => ?_⟩
  have h5 := h4 j hj
  have hb : (ad.add j).block = ad.block := by unfold Addr.add; split <;> rfl
  have hlt : ad.block < w.heap.size := by
    have := World.block_lt_of_cell? w _ h5
    rwa [hb] at this
  rw [← h5]
  exact World.cell?_of_block (by rw [hb]; exact hf.block _ hlt (hA ad rfl))
/-- A load of a whole write, in a region that draws its order: what it needs is the block. -/
noncomputable def loadElse (ev : Operand → Value) (o : Oper) (W : World) : Result Next := (execOp ev o).run Try.prog W
theorem load_wr (d : Option Tmp) (x : Operand) (ty' : TypeId) (pos : String) (af : Array Edge) (gd : Option (Nat × Bool)) (ev : Operand → Value) (W : World) :
    (execOp ev ⟨d, .load 89 x, ty', pos, af, gd⟩).run Try.prog W = match ev x with
    | .pointer (some ⟨g, 0, none⟩) => (match W.heap[g]? with
      | some (.cells cs _ _) => if cs.size = 257 then .ok (.value (.agg cs)) W else loadElse ev ⟨d, .load 89 x, ty', pos, af, gd⟩ W
      | _ => loadElse ev ⟨d, .load 89 x, ty', pos, af, gd⟩ W)
    | _ => loadElse ev ⟨d, .load 89 x, ty', pos, af, gd⟩ W := by
  split
  · rename_i g hx
    split
    · rename_i cs t fr h
      split
      · rename_i hs
        have hi : (Try.prog.info? 89).map (·.size) = some cs.size := by rw [hs]; kernel_rfl
        unfold execOp
        simp only [hx, Instr.loadAt, Instr.sureAddr, Sem.run_bind, Sem.run_pure, Result.andThen_ok, run_loadVar_row W g t 89 cs fr _ h Try.underlying89 rfl hi]
      · rfl
    · rfl
  · rfl
theorem build_wrs (d : Option Tmp) (x : Operand) (ty' : TypeId) (pos : String) (af : Array Edge) (gd : Option (Nat × Bool)) (ev : Operand → Value) (W : World) :
    (execOp ev ⟨d, .buildSlice 36 1 #[(0, x)], ty', pos, af, gd⟩).run Try.prog W = match ev x with
    | .agg cs => if cs.size = 257 then .ok (.value (.slice (some ⟨W.heap.size, 0, none⟩) 1 1)) (W.alloc (.cells cs 89)) else loadElse ev ⟨d, .buildSlice 36 1 #[(0, x)], ty', pos, af, gd⟩ W
    | _ => loadElse ev ⟨d, .buildSlice 36 1 #[(0, x)], ty', pos, af, gd⟩ W := by
  split
  · rename_i cs hx
    split
    · rename_i hs
      unfold execOp
      have e : (#[(0, x)] : Array (Nat × Operand)).map (fun (i, x) => (i, ev x)) = #[(0, .agg cs)] := by simp [hx]
      simp only [Sem.run_bind, e, slice_wr cs hs W, Result.andThen_ok]
      rfl
    · rfl
  · rfl
theorem range_row (w : World) (xs : List Value) (t : TypeId) : (w.alloc (.cells xs.toArray t)).rangeAt w.heap.size 0 xs := by
  have h := World.rangeAt_of_block (heap_alloc_last w (.cells xs.toArray t)) 0 xs.length
  have e : (xs.toArray.extract 0 (0 + xs.length)).toList = xs := by simp
  rwa [e] at h
def writeV (D : DS) (i : Int) (xs : List Int) : Int × DS :=
  if hasV D.size i ≠ 0 then (hasV D.size i, D) else if xs.length ≠ 256 then (1, D) else if (planV D).1 ≠ 0 then planV D else (0, { (planV D).2 with pend := D.pend ++ [(i, xs)] })
theorem planV_pend (D : DS) : (planV D).2.pend = D.pend ∧ (planV D).2.size = D.size ∧ (planV D).2.sure = D.sure := by
  unfold planV
  split
  · exact ⟨rfl, rfl, rfl⟩
  · split <;> exact ⟨rfl, rfl, rfl⟩
set_option maxRecDepth 100000 in
set_option maxHeartbeats 1000000 in
theorem write_bad (b : Nat) (D : DS) (fs : Nat → Prop) (i : Int) (A : Value) (w : World) (h : DiskAt w b D fs) (hv : hasV D.size i ≠ 0) :
    Calls Try.prog 56 #[.pointer (some ⟨b, 0, none⟩), .int .i64 i, A] w fun e w' => e = .returned (.int .i64 (hasV D.size i)) ∧ w = w' := by
  have ho := h.ok
  obtain ⟨r, v, hd⟩ := h
  have c0 : w.cell? ⟨b, 0, none⟩ = some (.int .i64 D.size) := (blk_cell hd.blk 0).trans rfl
  have HH := Lib.hid (has_any b D.size i w c0 ho.pos)
  have b1 : (hasV D.size i != 0) = true := bne_iff_ne.mpr hv
  clear hd ho hv
  generalize hasV D.size i = hh at *
  go_enter Try.func56, Try.ntmps56
  go_wp2_with (first | (go_at_call 61; ((with_reducible refine HH.out.mono ?_); rintro e w1 ⟨rfl, rfl⟩)))
  go_ret
  exact ⟨rfl, rfl⟩
set_option maxRecDepth 100000 in
set_option maxHeartbeats 1000000 in
theorem write_len (b : Nat) (D : DS) (fs : Nat → Prop) (i : Int) (A : Option Addr) (n c : Nat) (w : World) (h : DiskAt w b D fs) (hv : hasV D.size i = 0) (hn : n ≠ 256) (hn2 : n ≤ 9223372036854775807) :
    Calls Try.prog 56 #[.pointer (some ⟨b, 0, none⟩), .int .i64 i, .slice A n c] w fun e w' => e = .returned (.int .i64 1) ∧ w = w' := by
  have ho := h.ok
  obtain ⟨r, v, hd⟩ := h
  have c0 : w.cell? ⟨b, 0, none⟩ = some (.int .i64 D.size) := (blk_cell hd.blk 0).trans rfl
  have HH := Lib.hid (has_any b D.size i w c0 ho.pos)
  rw [hv] at HH
  have b1 : ((n : Int) != 256) = true := bne_iff_ne.mpr (by omega)
  clear hd ho hv hn
  go_enter Try.func56, Try.ntmps56
  go_wp2_with (first | (go_at_call 61; ((with_reducible refine HH.out.mono ?_); rintro e w1 ⟨rfl, rfl⟩)))
  go_ret
  exact ⟨rfl, rfl⟩
set_option maxRecDepth 100000 in
set_option maxHeartbeats 1000000 in
theorem write_plan (b : Nat) (D : DS) (fs : Nat → Prop) (i : Int) (A : Option Addr) (c : Nat) (w : World) (h : DiskAt w b D fs) (hv : hasV D.size i = 0) (ha : D.after ≤ 9223372036854775807) (hp : (planV D).1 ≠ 0) :
    Calls Try.prog 56 #[.pointer (some ⟨b, 0, none⟩), .int .i64 i, .slice A 256 c] w fun e w' => e = .returned (.int .i64 (planV D).1) ∧ DiskAt w' b (planV D).2 fs ∧ Frame fs w w' := by
  have HP := Lib.hid (plan_any b D fs w h ha)
  have ho := h.ok
  obtain ⟨r, v, hd⟩ := h
  have c0 : w.cell? ⟨b, 0, none⟩ = some (.int .i64 D.size) := (blk_cell hd.blk 0).trans rfl
  have HH := Lib.hid (has_any b D.size i w c0 ho.pos)
  rw [hv] at HH
  have b1 : ((planV D).1 != 0) = true := bne_iff_ne.mpr hp
  clear hd ho hv hp
  generalize planV D = pv at *
  go_enter Try.func56, Try.ntmps56
  go_wp2_with (first
    | (go_at_call 61; ((with_reducible refine HH.out.mono ?_); rintro e w1 ⟨rfl, rfl⟩))
    | (go_at_call 57; ((with_reducible refine HP.out.mono ?_); rintro e w1 ⟨rfl, hD1, hF1⟩; have HD1 := Lib.hid hD1; have HF1 := Lib.hid hF1; clear hD1 hF1)))
  go_ret
  exact ⟨rfl, HD1.out, HF1.out⟩
theorem DkV.rlt {w : World} {b r : Nat} {v : Value} {D : DS} {fs : Nat → Prop} (h : DkV w b r v D fs) : r < w.heap.size := by
  obtain ⟨F, hm, _⟩ := h.sure
  exact hm.lt
theorem DkV.rne {w : World} {b r : Nat} {v : Value} {D : DS} {fs : Nat → Prop} (h : DkV w b r v D fs) : some r ≠ v.ownBlock := by
  obtain ⟨F, ⟨es, cl, l, hx, _⟩, _⟩ := h.sure
  rcases h.pend.2 with ⟨h2, _⟩ | ⟨g, cap, cur, h2, _, hh, _⟩
  · rw [h2]; simp [Value.ownBlock]
  · rw [h2]
    intro e
    injection e with e
    subst e
    rw [hx] at hh; cases hh
theorem DkV.pended {w w3 : World} {b r : Nat} {v v1 : Value} {D : DS} {fs : Nat → Prop} {p : Int × List Int} (h : DkV w b r v D fs) (hb : w3.heap[b]? = w.heap[b]?) (hr : w3.heap[r]? = w.heap[r]?) (hown : w3.ownsRow 0 89 257 v1 (D.pend.length + 1) (D.pend.flatMap wcells ++ wcells p)) (hp : Blk p.2) :
    DkV (w3.setCell ⟨b, 2, none⟩ v1) b r v1 { D with pend := D.pend ++ [p] } (fun i => i = b ∨ i = r ∨ v1.ownBlock = some i) := by
  obtain ⟨hh, ⟨F, hm, hF⟩, hpp, hf, ho⟩ := h
  have hb3 := hb.trans hh
  have hrb : r ≠ b := fun e => by
    subst e
    obtain ⟨es, cl, l, hx, _⟩ := hm
    rw [hh] at hx; cases hx
  refine ⟨blk_set hb3 2 v1, ⟨F, hm.keep ((Below.heap_setCell _ _ _ _ hrb).trans hr), hF⟩, ?_, fun i => Iff.rfl, ⟨ho.pos, ho.max, ho.sure, fun q hq => ?_⟩⟩
  · have e : (D.pend ++ [p]).flatMap wcells = D.pend.flatMap wcells ++ wcells p := by simp
    show (w3.setCell ⟨b, 2, none⟩ v1).ownsRow 0 89 257 v1 (D.pend ++ [p]).length ((D.pend ++ [p]).flatMap wcells)
    rw [e, List.length_append]
    refine own_keep hown (fun g hg => Below.heap_setCell _ _ _ _ (fun e2 => ?_))
    subst e2
    exact own_ne hown hb3 (by decide) hg.symm
  · rcases List.mem_append.1 hq with hq | hq
    · exact ho.pend q hq
    · simp only [List.mem_singleton] at hq; subst hq; exact hp
attribute [local go_sem ↓] load_wr build_wrs
attribute [local go_sem] heap_drew
set_option maxRecDepth 100000 in
set_option maxHeartbeats 2000000 in
theorem write_ok (b : Nat) (D : DS) (fs : Nat → Prop) (i : Int) (A : Option Addr) (c : Nat) (xs : List Int) (w : World) (h : DiskAt w b D fs) (hv : hasV D.size i = 0) (ha : D.after ≤ 9223372036854775807) (hp : (planV D).1 = 0)
    (hr : ReadsInt w .u8 A 256 xs) (hx : Bytes xs) (hA : ∀ ad, A = some ad → ¬ fs ad.block) (hpl : D.pend.length ≤ 1000000000) :
    Calls Try.prog 56 #[.pointer (some ⟨b, 0, none⟩), .int .i64 i, .slice A 256 c] w fun e w' => e = .returned (.int .i64 0) ∧ Eff w b fs { (planV D).2 with pend := D.pend ++ [(i, xs)] } w' := by
  have HP := Lib.hid (plan_any b D fs w h ha)
  have ho := h.ok
  obtain ⟨r0, v0, hd⟩ := h
  have c0 : w.cell? ⟨b, 0, none⟩ = some (.int .i64 D.size) := (blk_cell hd.blk 0).trans rfl
  have HH := Lib.hid (has_any b D.size i w c0 ho.pos)
  rw [hv] at HH
  rw [hp] at HP
  have hpe := (planV_pend D).1
  rw [← hpe] at hpl ⊢
  have HR := Lib.hid hr
  have HX := Lib.hid hx
  have HA := Lib.hid hA
  have hxl : xs.length = 256 := hr.1
  clear hd ho hv hp hpe hr hx hA
  generalize (planV D).2 = D1 at *
  have hzw := zero_wr
  have hl1 : (wcells (i, z256)).length = 257 := wcells_len _ z256_len
  have hl2 : (wcells (i, xs)).length = 257 := wcells_len _ hxl
  have HS0 : Hid ((wcells (0, z256)).toArray.size = (wcells (i, z256)).toArray.size) := Lib.hid (by simp [hl1, wcells_len (0, z256) z256_len])
  have HN : Hid ((nums .u8 xs).length = Nat.min 256 256) := Lib.hid (by simp [nums, hxl])
  have HFIT : Hid (1 + (nums .u8 xs).length ≤ (wcells (i, z256)).toArray.size) := Lib.hid (by simp [nums, hxl, hl1])
  have HRES : Hid (wcells (i, xs) = (wcells (i, z256)).toArray.toList.take 1 ++ (nums .u8 xs ++ (wcells (i, z256)).toArray.toList.drop (1 + (nums .u8 xs).length))) := Lib.hid (by
    have h9 : (nums .u8 xs).length = 256 := by simp [nums, hxl]
    rw [h9, List.drop_of_length_le (by simp [hl1])]
    simp [wcells])
  have HLB : Hid ((D1.pend.length + 1) * 264 ≤ 140737488355328) := Lib.hid (by omega)
  obtain ⟨ad, rfl⟩ : ∃ ad, A = some ad := by
    obtain ⟨_, _, h9⟩ := HR.out
    obtain ⟨ad, h9, _⟩ := h9 (by decide)
    exact ⟨ad, h9⟩
  have HSRC : Hid (∀ (w1 : World), Frame fs w w1 → ∀ (cur : Array Value) j v, (nums .u8 xs)[j]? = some v → (w1.alloc (.cells cur 89)).cell? (ad.add j) = some v) := Lib.hid (fun w1 hf cur j v hj => pw_cell_below (below_first _) (by
    obtain ⟨h1, _, h9⟩ := reads_frame HR.out hf HA.out
    obtain ⟨ad2, h8, h9⟩ := h9 (by decide)
    cases h8
    simp only [nums, List.getElem?_map, Option.map_eq_some_iff] at hj
    obtain ⟨x, hx1, rfl⟩ := hj
    have hjl : j < xs.length := by
      rcases Nat.lt_or_ge j xs.length with h | h
      · exact h
      · rw [List.getElem?_eq_none h] at hx1; cases hx1
    rw [h9 j (by omega)]
    simp [List.getD_eq_getElem?_getD, hx1]))
  clear hl1 hl2
  go_enter Try.func56, Try.ntmps56
  go_wp2_with (first
    | (go_at_call 61; ((with_reducible refine HH.out.mono ?_); rintro e w1 ⟨rfl, rfl⟩))
    | (go_at_call 57; ((with_reducible refine HP.out.mono ?_); rintro e w1 ⟨rfl, hD1, hF1⟩; have HD1 := Lib.hid hD1; have HF1 := Lib.hid hF1; clear hD1 hF1))
    | ((with_reducible refine at_build (d := some 25) (.agg (wcells (i, z256)).toArray) ?_ ?_); (exact fun W => build_wr i W))
    | ((with_reducible refine at_store_new (x := .tmp 9) (y := .tmp 25) w1 _ (wcells (i, z256)).toArray (infoWr' (i, z256) z256_len) HS0.out (wcells_all _) ?_ ?_ ?_); rfl; rfl)
    | ((with_reducible refine at_copy_new (x := .tmp 27) (y := .tmp 28) w1 (wcells (i, z256)).toArray (wcells (i, xs)) 1 256 256 256 c ad (nums .u8 xs) Try.underlying23 (by kernel_rfl) HN.out (HSRC.out w1 HF1.out _) HFIT.out (nums_one xs) HRES.out ?_ ?_ ?_); rfl; rfl))
  go_frame
  obtain ⟨r, v, hd1⟩ := HD1.out
  have HDV := Lib.hid hd1
  have hwl : b < w1.heap.size := blk_lt hd1.blk
  have c2 : (w1.alloc (.cells (wcells (i, xs)).toArray 89)).cell? ⟨b, 2, none⟩ = some v := pw_cell_below (below_first _) ((blk_cell hd1.blk 2).trans rfl)
  have hwb := heap_alloc_last w1 (.cells (wcells (i, xs)).toArray 89)
  have hsz : (wcells (i, xs)).length = 257 := wcells_len _ hxl
  have hwl2 : w1.heap.size < (w1.alloc (.cells (wcells (i, xs)).toArray 89)).heap.size := by simp
  have HPN : Hid (PendAt (w1.alloc (.cells (wcells (i, xs)).toArray 89)) v D1.pend) := Lib.hid (hd1.pend.below_ (below_first _))
  have HB2 : Hid ((w1.alloc (.cells (wcells (i, xs)).toArray 89)).heap[b]? = w1.heap[b]?) := Lib.hid (heap_alloc_old _ _ (blk_lt hd1.blk))
  have HB2l : Hid (b < (w1.alloc (.cells (wcells (i, xs)).toArray 89)).heap.size) := Lib.hid (by have := blk_lt hd1.blk; simp; omega)
  have HNE : Hid (some b ≠ v.ownBlock) := Lib.hid (own_ne hd1.pend hd1.blk (by decide))
  have HRNE : Hid (some r ≠ v.ownBlock) := Lib.hid hd1.rne
  have HNW : Hid (some w1.heap.size ≠ v.ownBlock) := Lib.hid (own_ne_new hd1.pend 0)
  have HSZ1 : Hid ((w1.alloc (.cells (wcells (i, xs)).toArray 89)).drew.heap.size = w1.heap.size + 1) := Lib.hid (by simp [World.alloc_eq])
  clear hd1
  -- WALK
  refine start_ (n := 11) (S := fun w' => w'.cell? ⟨b, 2, none⟩ = some v ∧ w'.heap[w1.heap.size]? = some (.cells (wcells (i, xs)).toArray 89 (0, 0))) (ds := [10]) #[false, false, false, false, false, false, false, false, false, false, false] (by kernel_rfl) rfl rfl ⟨c2, hwb⟩ (fun hHeld => ?_)
  refine pure_ (i := 0) (N := some 30) (v := ?_) (a' := ?_) #[true, false, false, false, false, false, false, false, false, false, false] rfl rfl (by kernel_rfl) (fun _ _ _ h => h) (Or.inl ⟨by rfl, ?_⟩) ?_ ?_
  rotate_left
  · intro w'
    go_simp
    with_reducible rfl
  rotate_left
  · simp only [Act.put, List.setIfInBounds_toArray, List.set_cons_zero, List.set_cons_succ, i64_w, i32_w]
    rfl
  refine pure_ (i := 1) (N := some 31) (v := ?_) (a' := ?_) #[true, true, false, false, false, false, false, false, false, false, false] rfl rfl (by kernel_rfl) (fun _ _ _ h => h) (Or.inl ⟨by rfl, ?_⟩) ?_ ?_
  rotate_left
  · intro w'
    go_simp
    with_reducible rfl
  rotate_left
  · simp only [Act.put, List.setIfInBounds_toArray, List.set_cons_zero, List.set_cons_succ, i64_w, i32_w]
    rfl
  refine pure_ (i := 2) (N := some 32) (v := ?_) (a' := ?_) #[true, true, true, false, false, false, false, false, false, false, false] rfl rfl (by kernel_rfl) (fun _ _ _ h => h) (Or.inl ⟨by rfl, ?_⟩) ?_ ?_
  rotate_left
  · intro w'
    go_simp
    with_reducible rfl
  rotate_left
  · simp only [Act.put, List.setIfInBounds_toArray, List.set_cons_zero, List.set_cons_succ, i64_w, i32_w]
    rfl
  refine pure_ (i := 3) (N := some 33) (v := ?_) (a' := ?_) #[true, true, true, true, false, false, false, false, false, false, false] rfl rfl (by kernel_rfl) (fun _ _ _ h => h) (Or.inl ⟨by rfl, ?_⟩) ?_ ?_
  rotate_left
  · intro w'
    go_simp
    with_reducible rfl
  rotate_left
  · simp only [Act.put, List.setIfInBounds_toArray, List.set_cons_zero, List.set_cons_succ, i64_w, i32_w]
    rfl
  refine take_ (i := 4) (N := some 34) (v := ?_) (a' := ?_) #[true, true, true, true, true, false, false, false, false, false, false] rfl rfl (by kernel_rfl) (fun _ _ _ h => h) (Or.inl ⟨by rfl, ?_⟩) hHeld ?_ ?_
  rotate_left
  · rintro w' ⟨s0, s1⟩
    go_simp
    with_reducible rfl
  rotate_left
  · simp only [Act.put, List.setIfInBounds_toArray, List.set_cons_zero, List.set_cons_succ, i64_w, i32_w]
    rfl
  refine take_ (i := 5) (oi := ⟨some 35, .load 89 (.tmp 9), _, _, _, _⟩) (N := some 35) (v := ?_) (a' := ?_) #[true, true, true, true, true, true, false, false, false, false, false] rfl rfl (by kernel_rfl) (fun _ _ _ h => h) (Or.inl ⟨by rfl, ?_⟩) hHeld ?_ ?_
  rotate_left
  · rintro w' ⟨s0, s1⟩
    go_simp
    with_reducible rfl
  rotate_left
  · simp only [Act.put, List.setIfInBounds_toArray, List.set_cons_zero, List.set_cons_succ, i64_w, i32_w]
    rfl
  refine one_ (i := 6) (oi := ⟨some 36, .buildSlice 36 1 #[(0, .tmp 35)], _, _, _, _⟩) (N := some 36) #[true, true, true, true, true, true, true, false, false, false, false] rfl rfl (by kernel_rfl) (by decide) (fun K hK => ?_)
  refine value_ (w1 := ?_) (v := ?_) (by rfl) rfl ?_ ?_
  rotate_left 2
  · go_simp
    constructor
    · rfl
    · rfl
  refine hK.out _ _ ⟨pw_cell_below (below_first _) c2, (heap_alloc_old _ _ hwl2).trans hwb⟩ (fun hHeld => ?_)
  clear hK K
  refine norm_ (a' := ?_) ?_ ?_
  rotate_left
  · show Act.put _ (some 36) _ = _
    simp only [Act.put, List.setIfInBounds_toArray, List.set_cons_zero, List.set_cons_succ, i64_w, i32_w]
    rfl
  refine one_ (i := 7) (N := some 37) #[true, true, true, true, true, true, true, true, false, false, false] rfl rfl (by kernel_rfl) (by decide) (fun K hK => ?_)
  refine step_append_cells (W := (w1.alloc (.cells (wcells (i, xs)).toArray 89)).drew) 0 (by rfl) _ _ 36 89 (.agg (wcells (0, z256)).toArray) 257 264 (by rfl) Try.underlying36 infoWr zwr_size (by decide) (by decide) v D1.pend.length (D1.pend.flatMap wcells) (wcells (i, xs)) (by rfl) (by rw [HSZ1.out]; rfl) (wcells_len _ hxl) (wcells_one _) HPN.out (Below.refl _ _) (Nat.zero_le _) HLB.out ?_
  intro v1 w3 hO3 _ hG3 hA3
  obtain ⟨A1, n1, rfl⟩ := own_slice hO3
  have hb3 := (hG3.block b (HB2l.out) (HNE.out)).trans HB2.out
  have e2 : w3.cell? ⟨b, 2, none⟩ = some v := (blk_cell (hb3.trans HDV.out.blk) 2).trans rfl
  have f2 := blk_frozen (hb3.trans HDV.out.blk) 2
  have kr : w3.heap[w1.heap.size]? = some (.cells (wcells (i, xs)).toArray 89 (0, 0)) := (hG3.block _ hwl2 HNW.out).trans hwb
  have HO3 := Lib.hid hO3
  have HG3 := Lib.hid hG3
  have HA3 := Lib.hid hA3
  have HB3 := Lib.hid hb3
  clear hO3 hG3 hA3 hb3
  refine hK.out _ _ ⟨e2, kr⟩ (fun hHeld => ?_)
  clear hK K
  refine norm_ (a' := ?_) ?_ ?_
  rotate_left
  · show Act.put _ (some 37) _ = _
    simp only [Act.put, List.setIfInBounds_toArray, List.set_cons_zero, List.set_cons_succ, i64_w, i32_w]
    rfl
  refine pure_ (i := 8) (N := some 38) (v := ?_) (a' := ?_) #[true, true, true, true, true, true, true, true, true, false, false] rfl rfl (by kernel_rfl) (fun _ _ _ h => h) (Or.inl ⟨by rfl, ?_⟩) ?_ ?_
  rotate_left
  · intro w'
    go_simp
    with_reducible rfl
  rotate_left
  · simp only [Act.put, List.setIfInBounds_toArray, List.set_cons_zero, List.set_cons_succ, i64_w, i32_w]
    rfl
  refine pure_ (i := 9) (N := some 39) (v := ?_) (a' := ?_) #[true, true, true, true, true, true, true, true, true, true, false] rfl rfl (by kernel_rfl) (fun _ _ _ h => h) (Or.inl ⟨by rfl, ?_⟩) ?_ ?_
  rotate_left
  · intro w'
    go_simp
    with_reducible rfl
  rotate_left
  · simp only [Act.put, List.setIfInBounds_toArray, List.set_cons_zero, List.set_cons_succ, i64_w, i32_w]
    rfl
  refine last_ (i := 10) (N := none) #[true, true, true, true, true, true, true, true, true, true, true] rfl rfl (by kernel_rfl) (by decide) (fun K hK => ?_)
  refine skip_ (w1 := ?_) (by rfl) rfl ?_ ?_
  rotate_left
  · go_simp
    rfl
  refine hK.out _ _ ?_
  clear hK K
  refine done_ (by kernel_rfl) ?_
  -- END
  go_wp2
  go_ret
  have hr3 : w3.heap[r]? = w1.heap[r]? := (HG3.out.block r (by have := HDV.out.rlt; simp; omega) HRNE.out).trans (heap_alloc_old _ _ HDV.out.rlt)
  have hF3 : Frame fs w (w3.setCell ⟨b, 2, none⟩ (.slice A1 (D1.pend.length + 1) n1)) := frame_set ((HF1.out.alloc _).drew.grown HG3.out (fun k hk => .inl ((HDV.out.foot k).2 (.inr (.inr hk))))) ((HDV.out.foot b).2 (.inl rfl)) _ _
  have hD3 := HDV.out.pended HB3.out hr3 HO3.out (p := (i, xs)) ⟨hxl, HX.out⟩
  refine ⟨rfl, _, ⟨r, _, hD3⟩, hF3, fun k hk => ?_⟩
  rcases hk with rfl | rfl | hk
  · exact .inl ((HDV.out.foot _).2 (.inl rfl))
  · exact .inl ((HDV.out.foot _).2 (.inr (.inl rfl)))
  · rcases HA3.out with h9 | ⟨g, h9, h10⟩
    · exact .inl ((HDV.out.foot _).2 (.inr (.inr (h9 ▸ hk))))
    · refine .inr ?_
      rw [h9] at hk
      cases hk
      have h11 := HF1.out.size
      have h12 : w1.heap.size ≤ (w1.alloc (.cells (wcells (i, xs)).toArray 89)).drew.heap.size := by rw [HSZ1.out]; omega
      omega
theorem write_any (b : Nat) (D : DS) (fs : Nat → Prop) (i : Int) (A : Option Addr) (c : Nat) (xs : List Int) (w : World) (h : DiskAt w b D fs) (ha : D.after ≤ 9223372036854775807)
    (hr : ReadsInt w .u8 A xs.length xs) (hx : Bytes xs) (hA : ∀ ad, A = some ad → ¬ fs ad.block) (hpl : D.pend.length ≤ 1000000000) :
    Calls Try.prog 56 #[.pointer (some ⟨b, 0, none⟩), .int .i64 i, .slice A xs.length c] w fun e w' => e = .returned (.int .i64 (writeV D i xs).1) ∧ Eff w b fs (writeV D i xs).2 w' := by
  unfold writeV
  by_cases h1 : hasV D.size i ≠ 0
  · simp only [if_pos h1]
    exact (write_bad b D fs i _ w h h1).mono fun e w' ⟨h2, h3⟩ => ⟨h2, h3 ▸ Eff.refl h⟩
  · simp only [if_neg h1]
    have h1' : hasV D.size i = 0 := by simpa using h1
    by_cases h2 : xs.length ≠ 256
    · simp only [if_pos h2]
      exact (write_len b D fs i A xs.length c w h h1' h2 hr.2.1).mono fun e w' ⟨h2, h3⟩ => ⟨h2, h3 ▸ Eff.refl h⟩
    · simp only [if_neg h2]
      have h2' : xs.length = 256 := by simpa using h2
      rw [h2'] at hr ⊢
      by_cases h3 : (planV D).1 ≠ 0
      · simp only [if_pos h3]
        exact (write_plan b D fs i A c w h h1' ha h3).mono fun e w' ⟨h4, h5, h6⟩ => ⟨h4, fs, h5, h6, fun _ hh => .inl hh⟩
      · simp only [if_neg h3]
        exact write_ok b D fs i A c xs w h h1' ha (by simpa using h3) hr hx hA hpl
end Go.Proofs.Ytlmdghafiadgjaa
