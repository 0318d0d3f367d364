/- The disk: Turn. -/
import Derived.Test.YtfjeincceglfoaaDk7
import Derived.Laws.OwnMore
namespace Go.Proofs.Ytfjeincceglfoaa
open Go.RowKit Go.Proofs.YtfjeincceglfoaaW.PrintWords
open Go.ChangeMaps (setBlock)
open Go.Proofs.YtfjeincceglfoaaW.PrintLast

def xr (a b : Int) : Int := bits BinOp.xor IntKind.u8 a b
theorem xr_range (a b : Int) : 0 ≤ xr a b ∧ xr a b ≤ 255 := by
  unfold xr bits
  simp only [IntKind.wrap_u8]
  omega
def xorB (xs : List Int) (p : Nat) (by_ : Int) : List Int := xs.set p (xr (rd xs (p : Int)) by_)
theorem xorB_blk {xs : List Int} (h : Blk xs) (p : Nat) (y : Int) : Blk (xorB xs p y) := by
  refine ⟨by rw [xorB, List.length_set]; exact h.1, fun z hz => ?_⟩
  rcases List.mem_or_eq_of_mem_set hz with h2 | h2
  · exact h.2 z h2
  · rw [h2]; exact xr_range _ _
def turnP (i : Int) (p : Nat) (y : Int) (q : Int × List Int) : Int × List Int := if q.1 = i then (q.1, xorB q.2 p y) else q
def turnV (D : DS) (i place y : Int) : Int × DS :=
  if hasV D.size i ≠ 0 then (hasV D.size i, D) else if place < 0 ∨ 256 ≤ place then (1, D)
  else (0, { D with sure := updS D.sure i (xorB (D.sure i) place.toNat y), pend := D.pend.map (turnP i place.toNat y) })
def turnL (f : Int × List Int → Int × List Int) (k : Nat) (ps : List (Int × List Int)) : List (Int × List Int) := (ps.take k).map f ++ ps.drop k
theorem turnL_len (f : Int × List Int → Int × List Int) (k : Nat) (ps : List (Int × List Int)) : (turnL f k ps).length = ps.length := by
  simp only [turnL, List.length_append, List.length_map, List.length_take, List.length_drop]; omega
theorem turnL_get (f : Int × List Int → Int × List Int) (k : Nat) (ps : List (Int × List Int)) (h : k < ps.length) : (turnL f k ps)[k]'(by rw [turnL_len]; exact h) = ps[k] := by
  have hl : ((ps.take k).map f).length = k := by simp; omega
  simp only [turnL]
  rw [List.getElem_append_right (by omega)]
  simp only [hl, Nat.sub_self, List.getElem_drop, Nat.add_zero]
theorem turnL_succ (f : Int × List Int → Int × List Int) (k : Nat) (ps : List (Int × List Int)) (h : k < ps.length) : turnL f (k + 1) ps = (turnL f k ps).set k (f ps[k]) := by
  have hl : ((ps.take k).map f).length = k := by simp; omega
  unfold turnL
  rw [List.set_append_right _ _ (by omega), hl, Nat.sub_self, List.drop_eq_getElem_cons h, List.set_cons_zero, List.take_succ_eq_append_getElem h, List.map_append, List.append_assoc]
  rfl
theorem turnL_same (f : Int × List Int → Int × List Int) (k : Nat) (ps : List (Int × List Int)) (h : k < ps.length) (he : f ps[k] = ps[k]) : turnL f (k + 1) ps = turnL f k ps := by
  rw [turnL_succ f k ps h, he]
  conv => lhs; rw [← turnL_get f k ps h]
  exact List.set_getElem_self _
theorem flat_set {ps : List (Int × List Int)} (h : ∀ p ∈ ps, p.2.length = 256) {k j : Nat} (hk : k < ps.length) (hj : j < 257) (v : Value) (q : Int × List Int) (hq : wcells q = (wcells ps[k]).set j v) :
    (ps.flatMap wcells).set (k * 257 + j) v = (ps.set k q).flatMap wcells := by
  induction ps generalizing k with
  | nil => simp at hk
  | cons p ps ih =>
    have hl : (wcells p).length = 257 := wcells_len p (h p (by simp))
    rw [List.flatMap_cons]
    rcases k with _ | k
    · simp only [List.getElem_cons_zero] at hq
      rw [Nat.zero_mul, Nat.zero_add, List.set_append_left _ _ (by omega), ← hq]; rfl
    · rw [List.set_append_right _ _ (by omega), hl, show (k + 1) * 257 + j - 257 = k * 257 + j by omega, ih (fun q hq => h q (by simp [hq])) (by simp at hk; omega) (by simpa using hq)]; rfl
theorem wcells_set (a : Int) (xs : List Int) (p : Nat) (x : Int) : wcells (a, xs.set p x) = (wcells (a, xs)).set (1 + p) (.int .u8 x) := by
  rw [show 1 + p = p + 1 by omega]
  simp [wcells, nums, List.map_set]
/-- A byte of a write that is pending is turned. -/
theorem DkV.turned {w : World} {b r g n c k p : Nat} {D : DS} {fs : Nat → Prop} {x : Int} (h : DkV w b r (.slice (some ⟨g, 0, none⟩) n c) D fs) (hk : k < D.pend.length) (hp : p < 256) (hx : 0 ≤ x ∧ x ≤ 255) :
    DkV (w.setCell ⟨g, k * 257 + 1 + p, none⟩ (.int .u8 x)) b r (.slice (some ⟨g, 0, none⟩) n c) { D with pend := D.pend.set k (D.pend[k].1, D.pend[k].2.set p x) } fs := by
  have hbg : b ≠ g := fun e => own_ne h.pend h.blk (by decide) (by rw [e]; rfl)
  have hrg : r ≠ g := fun e => h.rne (by rw [e]; rfl)
  obtain ⟨hh, ⟨F, hm, hF⟩, hpp, hf, ho⟩ := h
  refine ⟨(Below.heap_setCell _ _ _ _ hbg).trans hh, ⟨F, hm.keep (Below.heap_setCell _ _ _ _ hrg), hF⟩, ?_, hf, ⟨ho.pos, ho.max, ho.sure, fun q hq => ?_⟩⟩
  · have hn : n = D.pend.length := by
      rcases hpp.2 with ⟨h1, _⟩ | ⟨_, _, _, h1, _⟩
      · cases h1
      · injection h1
    subst hn
    have h9 := hpp.stored (k * 257 + (1 + p)) (.int .u8 x)
    rw [flat_set (fun q hq => (ho.pend q hq).1) hk (by omega) _ _ (wcells_set _ _ p x)] at h9
    show World.ownsRow _ 0 63 257 _ (D.pend.set k _).length _
    rw [List.length_set, show k * 257 + 1 + p = k * 257 + (1 + p) by omega]
    exact h9.1
  · rcases List.mem_or_eq_of_mem_set hq with h2 | h2
    · exact ho.pend q h2
    · have h3 := ho.pend D.pend[k] (List.getElem_mem hk)
      rw [h2]
      refine ⟨by rw [List.length_set]; exact h3.1, fun z hz => ?_⟩
      rcases List.mem_or_eq_of_mem_set hz with h4 | h4
      · exact h3.2 z h4
      · rw [h4]; exact hx
theorem own_frozen {w : World} {base n m c g : Nat} {e : TypeId} {size : Nat} {xs : List Value} (h : w.ownsRow base e size (.slice (some ⟨g, 0, none⟩) m c) n xs) (j : Nat) : w.frozen? ⟨g, j, none⟩ = false := by
  rcases h.2 with ⟨h1, _⟩ | ⟨g', cap, cur, h1, _, hh, _⟩
  · cases h1
  · injection h1 with h1
    injection h1 with h1
    injection h1 with h1
    subst h1
    exact frozen_of_row w g j cur e hh
theorem DkV.drew {w : World} {b r : Nat} {v : Value} {D : DS} {fs : Nat → Prop} (h : DkV w b r v D fs) : DkV w.drew b r v D fs := h.keep (fun _ _ => rfl)
theorem DkV.cast {w : World} {b r : Nat} {v : Value} {D D' : DS} {fs : Nat → Prop} (h : DkV w b r v D fs) (e : D = D') : DkV w b r v D' fs := e ▸ h
set_option maxRecDepth 100000 in
set_option maxHeartbeats 1000000 in
theorem turn_no (p : Value) (i pl y : Int) (w : World) (h : NoDisk w p) : Calls Try.prog 29 #[p, .int .i64 i, .int .i64 pl, .int .u8 y] w fun e w' => e = .returned (.int .i64 6) ∧ w = w' := by
  have HM := Lib.hid (has_no p i w h)
  clear h
  go_enter Try.func29, Try.ntmps29
  go_wp2_with (first | (go_at_call 28; ((with_reducible refine HM.out.mono ?_); rintro e w1 ⟨rfl, rfl⟩)))
  go_ret
  exact ⟨rfl, rfl⟩
set_option maxRecDepth 100000 in
set_option maxHeartbeats 1000000 in
theorem turn_bad (b : Nat) (D : DS) (fs : Nat → Prop) (i pl y : Int) (w : World) (h : DiskAt w b D fs) (hv : hasV D.size i ≠ 0) :
    Calls Try.prog 29 #[.pointer (some ⟨b, 0, none⟩), .int .i64 i, .int .i64 pl, .int .u8 y] w fun e w' => e = .returned (.int .i64 (hasV D.size i)) ∧ w = w' := by
  have ho := h.ok
  obtain ⟨r, v, hd⟩ := h
  have c0 : w.cell? ⟨b, 0, none⟩ = some (.int .i64 D.size) := (blk_cell hd.blk 0).trans rfl
  have HH := Lib.hid (has_any b D.size i w c0 ho.pos)
  have b1 : (hasV D.size i != 0) = true := bne_iff_ne.mpr hv
  clear hd ho hv
  generalize hasV D.size i = hh at *
  go_enter Try.func29, Try.ntmps29
  go_wp2_with (first | (go_at_call 28; ((with_reducible refine HH.out.mono ?_); rintro e w1 ⟨rfl, rfl⟩)))
  go_ret
  exact ⟨rfl, rfl⟩
set_option maxRecDepth 100000 in
set_option maxHeartbeats 1000000 in
theorem turn_place (b : Nat) (D : DS) (fs : Nat → Prop) (i pl y : Int) (w : World) (h : DiskAt w b D fs) (hv : hasV D.size i = 0) (hp : pl < 0 ∨ (0 ≤ pl ∧ 256 ≤ pl)) :
    Calls Try.prog 29 #[.pointer (some ⟨b, 0, none⟩), .int .i64 i, .int .i64 pl, .int .u8 y] w fun e w' => e = .returned (.int .i64 1) ∧ w = w' := by
  have ho := h.ok
  obtain ⟨r, v, hd⟩ := h
  have c0 : w.cell? ⟨b, 0, none⟩ = some (.int .i64 D.size) := (blk_cell hd.blk 0).trans rfl
  have HH := Lib.hid (has_any b D.size i w c0 ho.pos)
  rw [hv] at HH
  clear hd ho hv
  rcases hp with hp | ⟨hp, hp2⟩
  all_goals
    go_enter Try.func29, Try.ntmps29
    go_wp2_with (first | (go_at_call 28; ((with_reducible refine HH.out.mono ?_); rintro e w1 ⟨rfl, rfl⟩)))
    go_ret
    exact ⟨rfl, rfl⟩
set_option maxRecDepth 100000 in
set_option maxHeartbeats 2000000 in
theorem turn_ok (b : Nat) (D : DS) (fs : Nat → Prop) (i : Int) (p : Nat) (y : Int) (w : World) (h : DiskAt w b D fs) (hv : hasV D.size i = 0) (hp : p < 256) (hy : 0 ≤ y ∧ y ≤ 255) :
    Calls Try.prog 29 #[.pointer (some ⟨b, 0, none⟩), .int .i64 i, .int .i64 p, .int .u8 y] w fun e w' => e = .returned (.int .i64 0) ∧ DiskAt w' b { D with sure := updS D.sure i (xorB (D.sure i) p y), pend := D.pend.map (turnP i p y) } fs ∧ Frame fs w w' := by
  have ho := h.ok
  obtain ⟨r, v, hd⟩ := h
  obtain ⟨A, c, rfl⟩ := own_slice hd.pend
  have hnm : D.pend.length ≤ 9223372036854775807 := own_max hd.pend
  have c0 : w.cell? ⟨b, 0, none⟩ = some (.int .i64 D.size) := (blk_cell hd.blk 0).trans rfl
  have c1 : w.cell? ⟨b, 1, none⟩ = some (.map (some r)) := (blk_cell hd.blk 1).trans rfl
  have HH := Lib.hid (has_any b D.size i w c0 ho.pos)
  rw [hv] at HH
  have hz := zero_blk
  unfold blk at hz
  have hbs := ho.sure i
  have hsi : (D.sure i).length = 256 := hbs.1
  have hlk : (Instr.lookup 51 (.map (some r)) (.int .i64 i) false).run Try.prog w = .ok (.agg (nums .u8 (D.sure i)).toArray) w := by
    obtain ⟨F, hm, hF⟩ := hd.sure
    have h9 := hm.lookup (P := Try.prog) Try.underlying51 Try.underlying3 i (blk z256) (zero_blk w)
    rw [hF i] at h9
    exact h9
  have hx0 : 0 ≤ rd (D.sure i) (p : Int) ∧ rd (D.sure i) (p : Int) ≤ 255 := hbs.2.rd p
  have hN := heap_alloc_last w (.cells (nums .u8 (D.sure i)).toArray 61)
  have hcp : (w.alloc (.cells (nums .u8 (D.sure i)).toArray 61)).cell? ⟨w.heap.size, p, none⟩ = some (.int .u8 (rd (D.sure i) (p : Int))) := by
    refine (blk_cell hN p).trans ?_
    rw [rd_lt _ p (by omega)]
    simp [nums, hsi, hp]
  have hzp := blk_frozen hN p
  have HS0 : Hid ((nums .u8 z256).toArray.size = (nums .u8 (D.sure i)).toArray.size) := Lib.hid (by simp [nums, hsi, z256_len])
  have HXB : Hid (Blk (xorB (D.sure i) p y)) := Lib.hid (xorB_blk hbs p y)
  have hset : (nums .u8 (D.sure i)).set p (.int .u8 (bits BinOp.xor IntKind.u8 (rd (D.sure i) (p : Int)) y)) = nums .u8 (xorB (D.sure i) p y) := by simp [nums, xorB, xr, List.map_set]
  have HHB := Lib.hid (heap_alloc_last w (.cells (nums .u8 (xorB (D.sure i) p y)).toArray 61))
  have HPUT := Lib.hid (put_v b r _ _ fs i (xorB (D.sure i) p y) _ (hd.alloc (.cells (nums .u8 (xorB (D.sure i) p y)).toArray 61)) HXB.out)
  have HFB : Hid (Frame fs w (w.alloc (.cells (nums .u8 (xorB (D.sure i) p y)).toArray 61))) := Lib.hid ((Frame.refl _ _).alloc _)
  have hxl : (xorB (D.sure i) p y).length = 256 := HXB.out.1
  have hp0 : (0 : Int) ≤ (p : Int) := Int.natCast_nonneg _
  have hp1 : (p : Int) < 256 := by omega
  clear hd ho hv hbs hN
  generalize xorB (D.sure i) p y = nx at *
  generalize rd (D.sure i) (p : Int) = x0 at *
  go_enter Try.func29, Try.ntmps29
  go_wp2_with (first
    | (go_at_call 28; ((with_reducible refine HH.out.mono ?_); rintro e w1 ⟨rfl, rfl⟩))
    | ((with_reducible refine at_store_new (x := .tmp 10) (y := .tmp 29) w _ (nums .u8 (D.sure i)).toArray (infoBlk' _ hsi) HS0.out (nums_all _) ?_ ?_ ?_); rfl; rfl)
    | ((with_reducible refine at_load_row (x := .tmp 10) (d := some 38) w.heap.size (nums .u8 nx).toArray (0, 0) _ HHB.out Try.underlying61 (infoBlk' _ hxl) rfl ?_ ?_); rfl)
    | (go_at_call 26; ((with_reducible refine HPUT.out.mono ?_); rintro e w5 ⟨rfl, hD5, hF5⟩; have HD5 := Lib.hid hD5; have HF5 := Lib.hid (HFB.out.same hF5); have a2 : w5.cell? ⟨b, 2, none⟩ = some (.slice A D.pend.length c) := (blk_cell hD5.blk 2).trans rfl; clear hD5 hF5)))
  go_loopw [45] (fun s45 wr => ∃ k : Nat, k ≤ D.pend.length ∧ s45 = .int .i64 k ∧ Hid (DkV wr b r (.slice A D.pend.length c) { D with sure := updS D.sure i nx, pend := turnL (turnP i p y) k D.pend } fs) ∧ Hid (Frame fs w wr)) (fun s45 _ => D.pend.length - (intOf s45).toNat)
  case atStart => exact ⟨0, Nat.zero_le _, rfl, HD5, HF5⟩
  case round =>
    obtain ⟨k, hk, rfl, HD, HF⟩ := hrel
    have e2 : wr.cell? ⟨b, 2, none⟩ = some (.slice A D.pend.length c) := (blk_cell HD.out.blk 2).trans rfl
    by_cases hlt : k < D.pend.length
    · obtain ⟨g, rfl⟩ : ∃ g, A = some ⟨g, 0, none⟩ := by
        have hp9 := HD.out.pend
        obtain ⟨g, cap, he, _⟩ := own_form hp9 (show 0 < (turnL (turnP i p y) k D.pend).length by rw [turnL_len]; omega)
        injection he with h1
        exact ⟨g, h1⟩
      have HLT : Hid (k < (turnL (turnP i p y) k D.pend).length) := Lib.hid (by rw [turnL_len]; exact hlt)
      have hrg := pend_range (ps := turnL (turnP i p y) k D.pend) HD.out.pend HD.out.ok.pend HLT.out
      have hpb : Blk D.pend[k].2 := by have h9 := HD.out.ok.pend _ (List.getElem_mem HLT.out); rwa [turnL_get _ _ _ hlt] at h9
      have HG : Hid ((turnL (turnP i p y) k D.pend)[k]'HLT.out = D.pend[k]) := Lib.hid (turnL_get _ _ _ hlt)
      rw [HG.out] at hrg
      have HPD : Hid (∀ j, wr.frozen? ⟨g, j, none⟩ = false) := Lib.hid (own_frozen HD.out.pend)
      have HSC : Hid (turnL (turnP i p y) (k + 1) D.pend = (turnL (turnP i p y) k D.pend).set k (turnP i p y D.pend[k])) := Lib.hid (turnL_succ _ _ _ hlt)
      have HSM : Hid (turnP i p y D.pend[k] = D.pend[k] → turnL (turnP i p y) (k + 1) D.pend = turnL (turnP i p y) k D.pend) := Lib.hid (turnL_same _ _ _ hlt)
      generalize hq : D.pend[k] = q at *
      clear hq
      obtain ⟨pa, pb⟩ := q
      have hpl : pb.length = 256 := hpb.1
      have hx1 : 0 ≤ rd pb (p : Int) ∧ rd pb (p : Int) ≤ 255 := hpb.2.rd p
      have ep : wr.cell? ⟨g, k * 257, none⟩ = some (.int .i64 pa) := hrg 0 (.int .i64 pa) rfl
      have ey : wr.cell? ⟨g, k * 257 + 1 + p, none⟩ = some (.int .u8 (rd pb (p : Int))) := by
        have h9 := hrg (p + 1) (.int .u8 (rd pb (p : Int))) (by
          simp only [wcells, List.getElem?_cons_succ]
          rw [rd_lt _ p (by omega)]
          simp [nums, hpl, hp])
        rwa [show k * 257 + (p + 1) = k * 257 + 1 + p by omega] at h9
      have fy := HPD.out (k * 257 + 1 + p)
      have hk0 : (0 : Int) ≤ (k : Int) := Int.natCast_nonneg _
      have hk1 : (k : Int) < (D.pend.length : Int) := by omega
      clear hrg hpb
      by_cases hpi : pa = i
      · have b1 : (pa == i) = true := beq_iff_eq.mpr hpi
        have HTP : Hid (turnP i p y (pa, pb) = (pa, pb.set p (bits BinOp.xor IntKind.u8 (rd pb (p : Int)) y))) := Lib.hid (by rw [turnP, if_pos hpi]; rfl)
        clear hpi
        generalize rd pb (p : Int) = y0 at *
        go_wp2
        -- W13
        refine start_ (n := 16) (S := fun w' => w'.cell? ⟨b, 2, none⟩ = some (.slice (some ⟨g, 0, none⟩) D.pend.length c) ∧ w'.cell? ⟨g, k * 257 + 1 + p, none⟩ = some (.int .u8 y0)) (ds := [15]) #[false, false, false, false, false, false, false, false, false, false, false, false, false, false, false, false] (by kernel_rfl) rfl rfl ⟨e2, ey⟩ (fun hHeld => ?_)
        refine pure_ (i := 0) (N := some 58) (v := ?_) (a' := ?_) #[true, false, false, false, false, false, false, false, false, false, false, false, false, false, false, false] rfl rfl (by kernel_rfl) (fun _ _ _ h => h) (Or.inl ⟨by rfl, ?_⟩) ?_ ?_
        rotate_left
        · intro w'
          go_simp
          with_reducible rfl
        rotate_left
        · simp only [Act.put, List.setIfInBounds_toArray, List.set_cons_zero, List.set_cons_succ, i64_w, i32_w]
          rfl
        refine pure_ (i := 1) (N := some 59) (v := ?_) (a' := ?_) #[true, true, false, false, false, false, false, false, false, false, false, false, false, false, false, false] rfl rfl (by kernel_rfl) (fun _ _ _ h => h) (Or.inl ⟨by rfl, ?_⟩) ?_ ?_
        rotate_left
        · intro w'
          go_simp
          with_reducible rfl
        rotate_left
        · simp only [Act.put, List.setIfInBounds_toArray, List.set_cons_zero, List.set_cons_succ, i64_w, i32_w]
          rfl
        refine pure_ (i := 2) (N := some 60) (v := ?_) (a' := ?_) #[true, true, true, false, false, false, false, false, false, false, false, false, false, false, false, false] rfl rfl (by kernel_rfl) (fun _ _ _ h => h) (Or.inl ⟨by rfl, ?_⟩) ?_ ?_
        rotate_left
        · intro w'
          go_simp
          with_reducible rfl
        rotate_left
        · simp only [Act.put, List.setIfInBounds_toArray, List.set_cons_zero, List.set_cons_succ, i64_w, i32_w]
          rfl
        refine pure_ (i := 4) (N := some 62) (v := ?_) (a' := ?_) #[true, true, true, false, true, false, false, false, false, false, false, false, false, false, false, false] rfl rfl (by kernel_rfl) (fun _ _ _ h => h) (Or.inl ⟨by rfl, ?_⟩) ?_ ?_
        rotate_left
        · intro w'
          go_simp
          with_reducible rfl
        rotate_left
        · simp only [Act.put, List.setIfInBounds_toArray, List.set_cons_zero, List.set_cons_succ, i64_w, i32_w]
          rfl
        refine pure_ (i := 5) (N := some 63) (v := ?_) (a' := ?_) #[true, true, true, false, true, true, false, false, false, false, false, false, false, false, false, false] rfl rfl (by kernel_rfl) (fun _ _ _ h => h) (Or.inl ⟨by rfl, ?_⟩) ?_ ?_
        rotate_left
        · intro w'
          go_simp
          with_reducible rfl
        rotate_left
        · simp only [Act.put, List.setIfInBounds_toArray, List.set_cons_zero, List.set_cons_succ, i64_w, i32_w]
          rfl
        refine pure_ (i := 10) (N := some 68) (v := ?_) (a' := ?_) #[true, true, true, false, true, true, false, false, false, false, true, false, false, false, false, false] rfl rfl (by kernel_rfl) (fun _ _ _ h => h) (Or.inl ⟨by rfl, ?_⟩) ?_ ?_
        rotate_left
        · intro w'
          go_simp
          with_reducible rfl
        rotate_left
        · simp only [Act.put, List.setIfInBounds_toArray, List.set_cons_zero, List.set_cons_succ, i64_w, i32_w]
          rfl
        refine take_ (i := 3) (N := some 61) (v := ?_) (a' := ?_) #[true, true, true, true, true, true, false, false, false, false, true, false, false, false, false, false] rfl rfl (by kernel_rfl) (fun _ _ _ h => h) (Or.inl ⟨by rfl, ?_⟩) hHeld ?_ ?_
        rotate_left
        · rintro w' ⟨s0, s1⟩
          go_simp
          with_reducible rfl
        rotate_left
        · simp only [Act.put, List.setIfInBounds_toArray, List.set_cons_zero, List.set_cons_succ, i64_w, i32_w]
          rfl
        refine pure_ (i := 6) (N := some 64) (v := ?_) (a' := ?_) #[true, true, true, true, true, true, true, false, false, false, true, false, false, false, false, false] rfl rfl (by kernel_rfl) (fun _ _ _ h => h) (Or.inl ⟨by rfl, ?_⟩) ?_ ?_
        rotate_left
        · intro w'
          go_simp
          with_reducible rfl
        rotate_left
        · simp only [Act.put, List.setIfInBounds_toArray, List.set_cons_zero, List.set_cons_succ, i64_w, i32_w]
          rfl
        refine pure_ (i := 7) (N := some 65) (v := ?_) (a' := ?_) #[true, true, true, true, true, true, true, true, false, false, true, false, false, false, false, false] rfl rfl (by kernel_rfl) (fun _ _ _ h => h) (Or.inl ⟨by rfl, ?_⟩) ?_ ?_
        rotate_left
        · intro w'
          go_simp
          with_reducible rfl
        rotate_left
        · simp only [Act.put, List.setIfInBounds_toArray, List.set_cons_zero, List.set_cons_succ, i64_w, i32_w]
          rfl
        refine pure_ (i := 8) (N := some 66) (v := ?_) (a' := ?_) #[true, true, true, true, true, true, true, true, true, false, true, false, false, false, false, false] rfl rfl (by kernel_rfl) (fun _ _ _ h => h) (Or.inl ⟨by rfl, ?_⟩) ?_ ?_
        rotate_left
        · intro w'
          go_simp
          with_reducible rfl
        rotate_left
        · simp only [Act.put, List.setIfInBounds_toArray, List.set_cons_zero, List.set_cons_succ, i64_w, i32_w]
          rfl
        refine pure_ (i := 12) (N := some 70) (v := ?_) (a' := ?_) #[true, true, true, true, true, true, true, true, true, false, true, false, true, false, false, false] rfl rfl (by kernel_rfl) (fun _ _ _ h => h) (Or.inl ⟨by rfl, ?_⟩) ?_ ?_
        rotate_left
        · intro w'
          go_simp
          with_reducible rfl
        rotate_left
        · simp only [Act.put, List.setIfInBounds_toArray, List.set_cons_zero, List.set_cons_succ, i64_w, i32_w]
          rfl
        refine pure_ (i := 13) (N := some 71) (v := ?_) (a' := ?_) #[true, true, true, true, true, true, true, true, true, false, true, false, true, true, false, false] rfl rfl (by kernel_rfl) (fun _ _ _ h => h) (Or.inl ⟨by rfl, ?_⟩) ?_ ?_
        rotate_left
        · intro w'
          go_simp
          with_reducible rfl
        rotate_left
        · simp only [Act.put, List.setIfInBounds_toArray, List.set_cons_zero, List.set_cons_succ, i64_w, i32_w]
          rfl
        refine take_ (i := 9) (N := some 67) (v := ?_) (a' := ?_) #[true, true, true, true, true, true, true, true, true, true, true, false, true, true, false, false] rfl rfl (by kernel_rfl) (fun _ _ _ h => h) (Or.inl ⟨by rfl, ?_⟩) hHeld ?_ ?_
        rotate_left
        · rintro w' ⟨s0, s1⟩
          go_simp
          with_reducible rfl
        rotate_left
        · simp only [Act.put, List.setIfInBounds_toArray, List.set_cons_zero, List.set_cons_succ, i64_w, i32_w]
          rfl
        refine pure_ (i := 11) (N := some 69) (v := ?_) (a' := ?_) #[true, true, true, true, true, true, true, true, true, true, true, true, true, true, false, false] rfl rfl (by kernel_rfl) (fun _ _ _ h => h) (Or.inl ⟨by rfl, ?_⟩) ?_ ?_
        rotate_left
        · intro w'
          go_simp
          with_reducible rfl
        rotate_left
        · simp only [Act.put, List.setIfInBounds_toArray, List.set_cons_zero, List.set_cons_succ, i64_w, i32_w]
          rfl
        refine pure_ (i := 14) (N := some 72) (v := ?_) (a' := ?_) #[true, true, true, true, true, true, true, true, true, true, true, true, true, true, true, false] rfl rfl (by kernel_rfl) (fun _ _ _ h => h) (Or.inl ⟨by rfl, ?_⟩) ?_ ?_
        rotate_left
        · intro w'
          go_simp
          with_reducible rfl
        rotate_left
        · simp only [Act.put, List.setIfInBounds_toArray, List.set_cons_zero, List.set_cons_succ, i64_w, i32_w]
          rfl
        refine last_ (i := 15) (N := none) #[true, true, true, true, true, true, true, true, true, true, true, true, true, true, true, true] rfl rfl (by kernel_rfl) (by decide) (fun K hK => ?_)
        refine skip_ (w1 := ?_) (by rfl) rfl ?_ ?_
        rotate_left
        · go_simp
          rfl
        refine hK.out _ _ ?_
        clear hK K
        refine done_ (by kernel_rfl) ?_
        -- ENDW13
        go_wp2
        have HDN := HD.out.turned (k := k) (p := p) (x := bits BinOp.xor IntKind.u8 y0 y) HLT.out hp (xr_range _ _)
        go_roundw
        case rel =>
          refine ⟨k + 1, hlt, by go_num, Lib.hid ?_, Lib.hid (frame_set HF.out ((HD.out.foot g).2 (.inr (.inr rfl))) _ _).drew⟩
          refine HDN.drew.cast ?_
          have h8 := HG.out
          simp only [h8, HSC.out, HTP.out]
        case measure => simp [intOf]; omega
      · have b1 : (pa == i) = false := beq_eq_false_iff_ne.mpr hpi
        have HTP : Hid (turnL (turnP i p y) (k + 1) D.pend = turnL (turnP i p y) k D.pend) := Lib.hid (HSM.out (by rw [turnP, if_neg hpi]))
        clear hpi
        go_wp2
        go_roundw
        case rel => exact ⟨k + 1, hlt, by go_num, Lib.hid (by rw [HTP.out]; exact HD.out), HF⟩
        case measure => simp [intOf]; omega
    · have HE : Hid (turnL (turnP i p y) k D.pend = D.pend.map (turnP i p y)) := Lib.hid (by
        unfold turnL
        rw [List.take_of_length_le (by omega), List.drop_of_length_le (by omega), List.append_nil])
      rw [HE.out] at HD
      go_wp2
      go_ret
      exact ⟨rfl, HD.out.at_, HF.out⟩
theorem turn_any (b : Nat) (D : DS) (fs : Nat → Prop) (i pl y : Int) (w : World) (h : DiskAt w b D fs) (hy : 0 ≤ y ∧ y ≤ 255) :
    Calls Try.prog 29 #[.pointer (some ⟨b, 0, none⟩), .int .i64 i, .int .i64 pl, .int .u8 y] w fun e w' => e = .returned (.int .i64 (turnV D i pl y).1) ∧ DiskAt w' b (turnV D i pl y).2 fs ∧ Frame fs w w' := by
  unfold turnV
  by_cases h1 : hasV D.size i ≠ 0
  · simp only [if_pos h1]
    exact (turn_bad b D fs i pl y w h h1).mono fun e w' ⟨h2, h3⟩ => ⟨h2, h3 ▸ h, h3 ▸ Frame.refl _ _⟩
  · simp only [if_neg h1]
    have h1' : hasV D.size i = 0 := by simpa using h1
    by_cases h2 : pl < 0 ∨ 256 ≤ pl
    · simp only [if_pos h2]
      exact (turn_place b D fs i pl y w h h1' (by omega)).mono fun e w' ⟨h2, h3⟩ => ⟨h2, h3 ▸ h, h3 ▸ Frame.refl _ _⟩
    · simp only [if_neg h2]
      obtain ⟨p, rfl⟩ := Int.eq_ofNat_of_zero_le (show 0 ≤ pl by omega)
      exact turn_ok b D fs i p y w h h1' (by omega) hy
end Go.Proofs.Ytfjeincceglfoaa
