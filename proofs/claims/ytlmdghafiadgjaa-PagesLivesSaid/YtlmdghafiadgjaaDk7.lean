/- The disk: Crash. -/
import Derived.Test.YtlmdghafiadgjaaDk6
import Derived.Laws.CopyRow
namespace Go.Proofs.Ytlmdghafiadgjaa
set_option linter.unusedVariables false
set_option linter.unusedSimpArgs false
open Go.RowKit Go.Proofs.YtlmdghafiadgjaaW.PrintWords
open Go.ChangeMaps (setBlock)
open Go.Proofs.YtlmdghafiadgjaaW.PrintLast

def clampN (x : Int) (m : Nat) : Nat := (min (max x 0) m).toNat
theorem clampN_le (x : Int) (m : Nat) : clampN x m ≤ m := by unfold clampN; omega
theorem clampN_eq (x : Int) (m : Nat) : mn (mx x 0) (m : Int) = ((clampN x m : Nat) : Int) := by
  unfold mn mx clampN
  split <;> split <;> omega
def tornB (t : Nat) (new old : List Int) : List Int := new.take t ++ old.drop t
def crashS (S : Int → List Int) (ps : List (Int × List Int)) (n t : Nat) : Int → List Int :=
  match ps.drop n with
  | [] => flush S (ps.take n)
  | p :: _ => updS (flush S (ps.take n)) p.1 (tornB t p.2 (flush S (ps.take n) p.1))
def crashV (D : DS) (keep torn : Int) : DS := { D with sure := crashS D.sure D.pend (clampN keep D.pend.length) (clampN torn 256), pend := [], planned := false }
theorem tornB_blk {t : Nat} {new old : List Int} (hn : Blk new) (ho : Blk old) (ht : t ≤ 256) : Blk (tornB t new old) := by
  refine ⟨?_, (hn.2.take t).append (ho.2.drop t)⟩
  have := hn.1
  have := ho.1
  simp only [tornB, List.length_append, List.length_take, List.length_drop]
  omega
theorem write_range {w : World} {g : Nat} {pa : Int} {pb : List Int} {t : TypeId} (h : w.heap[g]? = some (.cells (wcells (pa, pb)).toArray t (0, 0))) : w.rangeAt g 1 (nums .u8 pb) := by
  intro j v hv
  refine (blk_cell h (1 + j)).trans ?_
  simp only [wcells, List.getElem?_toArray]
  rw [show 1 + j = j + 1 by omega, List.getElem?_cons_succ]; exact hv
section
variable {P : Program}
theorem store_new_run (W0 : World) (c c' : Array Value) (t : TypeId) (ev : Operand → Value) (d : Option Tmp) (ty' : TypeId) (x y : Operand) (pos : String) (af : Array Edge) (gd : Option (Nat × Bool)) (hi : (P.info? t).map (·.size) = some c'.size) (hs : c.size = c'.size) (h1 : c'.all (·.oneCell') = true)
    (hx : ev x = .pointer (some ⟨W0.heap.size, 0, none⟩)) (hy : ev y = .agg c') : (execOp ev ⟨d, .store t x y, ty', pos, af, gd⟩).run P (W0.alloc (.cells c t)) = .ok .skip (W0.alloc (.cells c' t)) := by
  unfold execOp
  simp only [hx, hy, Sem.run_bind, run_storeAt_new W0 t c c' hi hs h1, Result.andThen_ok, Sem.run_pure]
end
theorem copy_new_run {P : Program} (W0 : World) (cur : Array Value) (res : List Value) (off dLen dCap sLen sCap : Nat) (ad : Addr) (cs : List Value) (t : TypeId) (ev : Operand → Value) (x y : Operand) (d : Option Tmp) (ty' dT sT : TypeId) (pos : String) (af : Array Edge) (gd : Option (Nat × Bool)) {el : TypeId} (hu : P.underlying dT = some (.slice el)) (hsz : (P.info? el).map (·.size) = some 1)
    (hn : cs.length = Nat.min sLen dLen) (hsrc : ∀ j v, cs[j]? = some v → (W0.alloc (.cells cur t)).cell? (ad.add j) = some v) (hfit : off + cs.length ≤ cur.size) (h1 : ∀ v ∈ cs, v.oneCell' = true) (hres : res = cur.toList.take off ++ cs ++ cur.toList.drop (off + cs.length))
    (hx : ev x = .slice (some ⟨W0.heap.size, off, none⟩) dLen dCap) (hy : ev y = .slice (some ad) sLen sCap) :
    (execOp ev ⟨d, .call { callee := .builtin .copy, args := #[x, y], argTypes := #[dT, sT] }, ty', pos, af, gd⟩).run P (W0.alloc (.cells cur t)) = .ok (.value (goInt cs.length)) (W0.alloc (.cells res.toArray t)) := by
  have hrun := run_copy_row (P := P) (W0.alloc (.cells cur t)) dT sT ty' el W0.heap.size off dLen dCap ad sLen sCap cur t cs hu hsz (heap_alloc_last W0 _) hn hsrc hfit h1
  rw [World.setRow_alloc_new, ← hres] at hrun
  simp [execOp, resolve, invoke, builtin, hx, hy, hrun, Result.andThen]
set_option maxRecDepth 100000 in
set_option maxHeartbeats 1000000 in
theorem crash_no (p : Value) (k t : Int) (w : World) (h : NoDisk w p) : Calls Try.prog 28 #[p, .int .i64 k, .int .i64 t] w fun e w' => e = .returned (.int .i64 6) ∧ w = w' := by
  have HM := Lib.hid (made_no p w h)
  clear h
  go_enter Try.func28, Try.ntmps28
  go_wp2_with (first | (go_at_call 51; ((with_reducible refine HM.out.mono ?_); rintro e w1 ⟨rfl, rfl⟩)))
  go_ret
  exact ⟨rfl, rfl⟩
set_option maxRecDepth 100000 in
set_option maxHeartbeats 2000000 in
theorem crash_any (b : Nat) (D : DS) (fs : Nat → Prop) (keep torn : Int) (w : World) (h : DiskAt w b D fs) :
    Calls Try.prog 28 #[.pointer (some ⟨b, 0, none⟩), .int .i64 keep, .int .i64 torn] w fun e w' => e = .returned (.int .i64 0) ∧ Eff w b fs (crashV D keep torn) w' := by
  have ho := h.ok
  obtain ⟨r, v, hd⟩ := h
  obtain ⟨A, c, rfl⟩ := own_slice hd.pend
  have hlc : D.pend.length ≤ c := by
    rcases hd.pend.2 with ⟨h1, h2⟩ | ⟨g, cap, cur, h1, _, _, h3, _⟩
    · omega
    · injection h1 with _ _ h1; omega
  have hnm : D.pend.length ≤ 9223372036854775807 := own_max hd.pend
  have hcm : c ≤ 9223372036854775807 := by
    rcases hd.pend.2 with ⟨h1, h2⟩ | ⟨g, cap, cur, h1, _, _, _, h4, _⟩
    · injection h1 with _ _ h1; omega
    · injection h1 with _ _ h1; simp only [maxLen] at h4; omega
  have c0 : w.cell? ⟨b, 0, none⟩ = some (.int .i64 D.size) := (blk_cell hd.blk 0).trans rfl
  have c2 : w.cell? ⟨b, 2, none⟩ = some (.slice A D.pend.length c) := (blk_cell hd.blk 2).trans rfl
  have HM := Lib.hid (made_yes b D.size w c0 ho.pos)
  have hmx := max_ints
  have hmn := min_ints
  have hn := clampN_eq keep D.pend.length
  have ht : mn (mx torn 0) 256 = ((clampN torn 256 : Nat) : Int) := clampN_eq torn 256
  have hn2 := clampN_le keep D.pend.length
  have ht2 := clampN_le torn 256
  have ht0 : (0 : Int) ≤ ((clampN torn 256 : Nat) : Int) := Int.natCast_nonneg _
  have ht3 : ((clampN torn 256 : Nat) : Int) ≤ 256 := by omega
  unfold crashV
  generalize clampN keep D.pend.length = n at *
  generalize clampN torn 256 = t at *
  have hzw := zero_wr
  have hz := zero_blk
  unfold blk at hz
  have HD0 := Lib.hid hd
  clear hd ho
  go_enter Try.func28, Try.ntmps28
  go_wp2_with (first
    | (go_at_call 51; ((with_reducible refine HM.out.mono ?_); rintro e w1 ⟨rfl, rfl⟩)))
  clear hn
  go_loopw [30] (fun s30 wr => ∃ k : Nat, k ≤ n ∧ s30 = .int .i64 k ∧ Hid (DkV wr b r (.slice A D.pend.length c) { D with sure := flush D.sure (D.pend.take k) } fs) ∧ Hid (Frame fs w wr)) (fun s30 _ => n - (intOf s30).toNat)
  case atStart => exact ⟨0, Nat.zero_le _, rfl, HD0, Lib.hid (Frame.refl _ _)⟩
  case round =>
    obtain ⟨k, hk, rfl, HD, HF⟩ := hrel
    by_cases hlt : k < n
    · have hlt2 : k < D.pend.length := by omega
      obtain ⟨g, rfl⟩ : ∃ g, A = some ⟨g, 0, none⟩ := by
        obtain ⟨g, cap, he, _⟩ := own_form HD.out.pend (show 0 < D.pend.length by omega)
        injection he with h1
        exact ⟨g, h1⟩
      have hrg := pend_range (ps := D.pend) HD.out.pend HD.out.ok.pend hlt2
      have hpb : Blk D.pend[k].2 := HD.out.ok.pend D.pend[k] (List.getElem_mem hlt2)
      have HTK : Hid (flush D.sure (D.pend.take (k + 1)) = updS (flush D.sure (D.pend.take k)) D.pend[k].1 D.pend[k].2) := Lib.hid (by rw [List.take_succ_eq_append_getElem hlt2, flush_snoc])
      generalize flush D.sure (D.pend.take k) = S0 at *
      generalize D.pend[k] = p at *
      obtain ⟨pa, pb⟩ := p
      have hpl : pb.length = 256 := hpb.1
      have HPB := Lib.hid hpb
      have hN := heap_alloc_last wr (.cells (wcells (pa, pb)).toArray 89)
      have hc0 : (wr.alloc (.cells (wcells (pa, pb)).toArray 89)).cell? ⟨wr.heap.size, 0, none⟩ = some (.int .i64 pa) := (blk_cell hN 0).trans rfl
      have hrN := write_range hN
      have HSZ : Hid ((wcells (0, z256)).toArray.size = (wcells (pa, pb)).toArray.size) := Lib.hid (by simp [wcells, nums, hpl, z256_len])
      have HPUT := Lib.hid (put_v b r _ _ fs pa pb _ (HD.out.alloc (.cells (wcells (pa, pb)).toArray 89)) HPB.out)
      have HFN := Lib.hid (HF.out.alloc (.cells (wcells (pa, pb)).toArray 89))
      clear hN hpb
      go_wp2_with (first
        | ((with_reducible refine at_load_mid (x := .tmp 32) (d := some 33) g (k * 257) (wcells (pa, pb)) _ hrg Try.underlying89 (infoWrL (pa, pb) hpl) rfl ?_ ?_); rfl)
        | ((with_reducible refine at_store_new (x := .tmp 9) (y := .tmp 33) wr _ (wcells (pa, pb)).toArray (infoWr' (pa, pb) hpl) HSZ.out (wcells_all _) ?_ ?_ ?_); rfl; rfl)
        | ((with_reducible refine at_load_mid (x := .tmp 37) (d := some 38) wr.heap.size 1 (nums .u8 pb) _ hrN Try.underlying87 (infoBlkL pb hpl) rfl ?_ ?_); rfl)
        | (go_at_call 52; ((with_reducible refine HPUT.out.mono ?_); rintro e w5 ⟨rfl, hD5, hF5⟩; have HD5 := Lib.hid hD5; have HF5 := Lib.hid (HFN.out.same hF5); clear hD5 hF5)))
      go_roundw
      case rel => exact ⟨k + 1, hlt, by go_num, Lib.hid (by rw [HTK.out]; exact HD5.out), HF5⟩
      case measure => simp [intOf]; omega
    · obtain rfl : k = n := by omega
      have e2 : wr.cell? ⟨b, 2, none⟩ = some (.slice A D.pend.length c) := (blk_cell HD.out.blk 2).trans rfl
      have e3 : wr.cell? ⟨b, 3, none⟩ = some (.bool D.planned) := (blk_cell HD.out.blk 3).trans rfl
      have f2 := blk_frozen HD.out.blk 2
      have f3 := blk_frozen HD.out.blk 3
      by_cases hlt2 : k < D.pend.length
      · obtain ⟨g, rfl⟩ : ∃ g, A = some ⟨g, 0, none⟩ := by
          obtain ⟨g, cap, he, _⟩ := own_form HD.out.pend (show 0 < D.pend.length by omega)
          injection he with h1
          exact ⟨g, h1⟩
        have hrg := pend_range (ps := D.pend) HD.out.pend HD.out.ok.pend hlt2
        have hpb : Blk D.pend[k].2 := HD.out.ok.pend D.pend[k] (List.getElem_mem hlt2)
        have HE : Hid (crashS D.sure D.pend k t = updS (flush D.sure (D.pend.take k)) D.pend[k].1 (tornB t D.pend[k].2 (flush D.sure (D.pend.take k) D.pend[k].1))) := Lib.hid (by
          unfold crashS
          rw [List.drop_eq_getElem_cons hlt2])
        have HSB : Hid (Blk (flush D.sure (D.pend.take k) D.pend[k].1)) := Lib.hid (HD.out.ok.sure _)
        generalize flush D.sure (D.pend.take k) = S0 at *
        generalize D.pend[k] = p at *
        obtain ⟨pa, pb⟩ := p
        have hpl : pb.length = 256 := hpb.1
        have hsb : (S0 pa).length = 256 := HSB.out.1
        have HPB := Lib.hid hpb
        have hN := heap_alloc_last wr (.cells (wcells (pa, pb)).toArray 89)
        have hc0 : (wr.alloc (.cells (wcells (pa, pb)).toArray 89)).cell? ⟨wr.heap.size, 0, none⟩ = some (.int .i64 pa) := (blk_cell hN 0).trans rfl
        have HRN := Lib.hid (write_range hN)
        have HSZ : Hid ((wcells (0, z256)).toArray.size = (wcells (pa, pb)).toArray.size) := Lib.hid (by simp [wcells, nums, hpl, z256_len])
        have HSZ2 : Hid ((nums .u8 z256).toArray.size = (nums .u8 (S0 pa)).toArray.size) := Lib.hid (by simp [nums, hsb, z256_len])
        have HSZ1 : Hid ((wr.alloc (.cells (wcells (pa, pb)).toArray 89)).drew.heap.size = wr.heap.size + 1) := Lib.hid (by simp)
        have HDB := Lib.hid (HD.out.alloc (.cells (wcells (pa, pb)).toArray 89))
        have HFN := Lib.hid (HF.out.alloc (.cells (wcells (pa, pb)).toArray 89))
        have e1 : (wr.alloc (.cells (wcells (pa, pb)).toArray 89)).cell? ⟨b, 1, none⟩ = some (.map (some r)) := (blk_cell HDB.out.blk 1).trans rfl
        have HLK : Hid (∀ W, Below (wr.alloc (.cells (wcells (pa, pb)).toArray 89)).heap.size (wr.alloc (.cells (wcells (pa, pb)).toArray 89)) W → (Instr.lookup 35 (.map (some r)) (.int .i64 pa) false).run Try.prog W = .ok (.agg (nums .u8 (S0 pa)).toArray) W) := Lib.hid (fun W hW => by
          obtain ⟨F, hm, hF⟩ := (HDB.out.below hW).sure
          have h9 := hm.lookup (P := Try.prog) Try.underlying35 Try.underlying3 pa (blk z256) (zero_blk W)
          rw [hF pa] at h9
          exact h9)
        have HTB : Hid (Blk (tornB t pb (S0 pa))) := Lib.hid (tornB_blk HPB.out HSB.out ht2)
        have HCOPY : Hid (∀ (ev : Operand → Value) (x y : Operand) (d : Option Tmp) (ty' : TypeId) (pos : String) (af : Array Edge) (gd : Option (Nat × Bool)), ev x = .slice (some ⟨wr.heap.size + 1, 0, none⟩) t 256 → ev y = .slice (some ⟨wr.heap.size, 1, none⟩) 256 256 →
            (execOp ev ⟨d, .call { callee := .builtin .copy, args := #[x, y], argTypes := #[23, 23] }, ty', pos, af, gd⟩).run Try.prog ((wr.alloc (.cells (wcells (pa, pb)).toArray 89)).drew.drew.alloc (.cells (nums .u8 (S0 pa)).toArray 87)) = .ok (.value (goInt t)) ((wr.alloc (.cells (wcells (pa, pb)).toArray 89)).drew.drew.alloc (.cells (nums .u8 (tornB t pb (S0 pa))).toArray 87))) := Lib.hid (fun ev x y d ty' pos af gd hx hy => by
          have hcl : (nums .u8 (pb.take t)).length = t := by simp [nums, hpl]; omega
          have h9 := copy_new_run (P := Try.prog) (wr.alloc (.cells (wcells (pa, pb)).toArray 89)).drew.drew (nums .u8 (S0 pa)).toArray (nums .u8 (tornB t pb (S0 pa))) 0 t 256 256 256 ⟨wr.heap.size, 1, none⟩ (nums .u8 (pb.take t)) 87 ev x y d ty' 23 23 pos af gd Try.underlying23 (by kernel_rfl) (by rw [hcl]; exact (Nat.min_eq_right ht2).symm) (fun j v hj => by
            have hj2 : (nums .u8 pb)[j]? = some v := by
              simp only [nums, List.getElem?_map, List.getElem?_take, Option.map_eq_some_iff] at hj ⊢
              obtain ⟨z, hz1, hz2⟩ := hj
              split at hz1
              · exact ⟨z, hz1, hz2⟩
              · cases hz1
            rw [show (⟨wr.heap.size, 1, none⟩ : Addr).add j = ⟨wr.heap.size, 1 + j, none⟩ from by unfold Addr.add; split <;> simp_all]
            exact pw_cell_below (w := wr.alloc (.cells (wcells (pa, pb)).toArray 89)) (below_alloc (b_drew (b_drew (Below.refl _ _))) _) (HRN.out j v hj2)) (by rw [hcl]; simp [nums, hsb]; omega) (nums_one _) (by rw [hcl]; simp [nums, tornB]) (by rw [hx]; simp) hy
          rw [hcl] at h9
          exact h9)
        have HHB : Hid (((wr.alloc (.cells (wcells (pa, pb)).toArray 89)).alloc (.cells (nums .u8 (tornB t pb (S0 pa))).toArray 87)).drew.drew.heap[wr.heap.size + 1]? = some (.cells (nums .u8 (tornB t pb (S0 pa))).toArray 87 (0, 0))) := Lib.hid (by
          have h9 := heap_alloc_last (wr.alloc (.cells (wcells (pa, pb)).toArray 89)) (.cells (nums .u8 (tornB t pb (S0 pa))).toArray 87)
          have e9 : (wr.alloc (.cells (wcells (pa, pb)).toArray 89)).heap.size = wr.heap.size + 1 := by simp
          rw [e9] at h9
          exact h9)
        have HWD : Hid (Below (wr.alloc (.cells (wcells (pa, pb)).toArray 89)).heap.size (wr.alloc (.cells (wcells (pa, pb)).toArray 89)) ((wr.alloc (.cells (wcells (pa, pb)).toArray 89)).alloc (.cells (nums .u8 (tornB t pb (S0 pa))).toArray 87)).drew.drew) := Lib.hid (b_drew (b_drew (below_first _)))
        have HPUT := Lib.hid (put_v b r _ _ fs pa (tornB t pb (S0 pa)) ((wr.alloc (.cells (wcells (pa, pb)).toArray 89)).alloc (.cells (nums .u8 (tornB t pb (S0 pa))).toArray 87)).drew.drew (HDB.out.below HWD.out) HTB.out)
        have HFD : Hid (Frame fs w ((wr.alloc (.cells (wcells (pa, pb)).toArray 89)).alloc (.cells (nums .u8 (tornB t pb (S0 pa))).toArray 87)).drew.drew) := Lib.hid (HFN.out.alloc _).drew.drew
        have hcD : ((wr.alloc (.cells (wcells (pa, pb)).toArray 89)).alloc (.cells (nums .u8 (tornB t pb (S0 pa))).toArray 87)).cell? ⟨wr.heap.size, 0, none⟩ = some (.int .i64 pa) := pw_cell_below (below_first _) hc0
        have htl : (tornB t pb (S0 pa)).length = 256 := HTB.out.1
        clear hN hpb
        go_wp2_with (first
          | ((with_reducible refine at_load_mid (x := .tmp 53) (d := some 54) g (k * 257) (wcells (pa, pb)) _ hrg Try.underlying89 (infoWrL (pa, pb) hpl) rfl ?_ ?_); rfl)
          | ((with_reducible refine at_store_new (x := .tmp 10) (y := .tmp 54) wr _ (wcells (pa, pb)).toArray (infoWr' (pa, pb) hpl) HSZ.out (wcells_all _) ?_ ?_ ?_); rfl; rfl))
        -- W11
        refine start_ (n := 9) (S := fun w' => w'.cell? ⟨b, 1, none⟩ = some (.map (some r)) ∧ w'.cell? ⟨wr.heap.size, 0, none⟩ = some (.int .i64 pa) ∧ (Instr.lookup 35 (.map (some r)) (.int .i64 pa) false).run Try.prog w' = .ok (.agg (nums .u8 (S0 pa)).toArray) w') (ds := [8]) #[false, false, false, false, false, false, false, false, false] (by kernel_rfl) rfl rfl ⟨e1, hc0, HLK.out _ (b_drew (Below.refl _ _))⟩ (fun hHeld => ?_)
        refine pure_ (i := 0) (N := some 55) (v := ?_) (a' := ?_) #[true, false, false, false, false, false, false, false, false] rfl rfl (by kernel_rfl) (fun _ _ _ h => h) (Or.inl ⟨by rfl, ?_⟩) ?_ ?_
        rotate_left
        · intro w'
          go_simp
          with_reducible rfl
        rotate_left
        · simp only [Act.put, List.setIfInBounds_toArray, List.set_cons_zero, List.set_cons_succ, i64_w, i32_w]
          rfl
        refine pure_ (i := 1) (N := some 56) (v := ?_) (a' := ?_) #[true, true, false, false, false, false, false, false, false] rfl rfl (by kernel_rfl) (fun _ _ _ h => h) (Or.inl ⟨by rfl, ?_⟩) ?_ ?_
        rotate_left
        · intro w'
          go_simp
          with_reducible rfl
        rotate_left
        · simp only [Act.put, List.setIfInBounds_toArray, List.set_cons_zero, List.set_cons_succ, i64_w, i32_w]
          rfl
        refine pure_ (i := 2) (N := some 57) (v := ?_) (a' := ?_) #[true, true, true, false, false, false, false, false, false] rfl rfl (by kernel_rfl) (fun _ _ _ h => h) (Or.inl ⟨by rfl, ?_⟩) ?_ ?_
        rotate_left
        · intro w'
          go_simp
          with_reducible rfl
        rotate_left
        · simp only [Act.put, List.setIfInBounds_toArray, List.set_cons_zero, List.set_cons_succ, i64_w, i32_w]
          rfl
        refine pure_ (i := 4) (N := some 59) (v := ?_) (a' := ?_) #[true, true, true, false, true, false, false, false, false] rfl rfl (by kernel_rfl) (fun _ _ _ h => h) (Or.inl ⟨by rfl, ?_⟩) ?_ ?_
        rotate_left
        · intro w'
          go_simp
          with_reducible rfl
        rotate_left
        · simp only [Act.put, List.setIfInBounds_toArray, List.set_cons_zero, List.set_cons_succ, i64_w, i32_w]
          rfl
        refine take_ (i := 3) (N := some 58) (v := ?_) (a' := ?_) #[true, true, true, true, true, false, false, false, false] rfl rfl (by kernel_rfl) (fun _ _ _ h => h) (Or.inl ⟨by rfl, ?_⟩) hHeld ?_ ?_
        rotate_left
        · rintro w' ⟨s0, s1, s2⟩
          go_simp
          with_reducible rfl
        rotate_left
        · simp only [Act.put, List.setIfInBounds_toArray, List.set_cons_zero, List.set_cons_succ, i64_w, i32_w]
          rfl
        refine take_ (i := 5) (N := some 60) (v := ?_) (a' := ?_) #[true, true, true, true, true, true, false, false, false] rfl rfl (by kernel_rfl) (fun _ _ _ h => h) (Or.inl ⟨by rfl, ?_⟩) hHeld ?_ ?_
        rotate_left
        · rintro w' ⟨s0, s1, s2⟩
          go_simp
          with_reducible rfl
        rotate_left
        · simp only [Act.put, List.setIfInBounds_toArray, List.set_cons_zero, List.set_cons_succ, i64_w, i32_w]
          rfl
        refine take_ (i := 6) (N := some 61) (v := ?_) (a' := ?_) #[true, true, true, true, true, true, true, false, false] rfl rfl (by kernel_rfl) (fun _ _ _ h => h) (Or.inl ⟨by rfl, ?_⟩) hHeld ?_ ?_
        rotate_left
        · rintro w' ⟨s0, s1, s2⟩
          go_simp
          with_reducible rfl
        rotate_left
        · simp only [Act.put, List.setIfInBounds_toArray, List.set_cons_zero, List.set_cons_succ, i64_w, i32_w]
          rfl
        refine one_ (i := 7) (N := some 11) #[true, true, true, true, true, true, true, true, false] rfl rfl (by kernel_rfl) (by decide) (fun K hK => ?_)
        refine value_ (w1 := ?_) (v := ?_) (by rfl) rfl ?_ ?_
        rotate_left 2
        · go_simp
          constructor
          · rfl
          · rfl
        refine hK.out _ _ ⟨pw_cell_below (below_first _) e1, pw_cell_below (below_first _) hc0, HLK.out _ (b_drew (below_first _))⟩ (fun hHeld => ?_)
        clear hK K
        refine norm_ (a' := ?_) ?_ ?_
        rotate_left
        · show Act.put _ (some 11) _ = _
          simp only [Act.put, List.setIfInBounds_toArray, List.set_cons_zero, List.set_cons_succ, i64_w, i32_w]
          rfl
        refine last_ (i := 8) (N := none) #[true, true, true, true, true, true, true, true, true] rfl rfl (by kernel_rfl) (by decide) (fun K hK => ?_)
        refine skip_ (w1 := ((wr.alloc (.cells (wcells (pa, pb)).toArray 89)).alloc (.cells (nums .u8 (S0 pa)).toArray 87)).drew) (by rfl) rfl ?_ ?_
        · exact store_new_run (wr.alloc (.cells (wcells (pa, pb)).toArray 89)).drew _ _ _ _ _ _ _ _ _ _ _ (infoBlk' _ hsb) HSZ2.out (nums_all _) (by rw [HSZ1.out]; rfl) rfl
        refine hK.out _ _ ?_
        clear hK K
        refine done_ (by kernel_rfl) ?_
        -- ENDW11
        go_wp2
        -- W12
        refine start_ (n := 7) (S := fun w' => True) (ds := [6]) #[false, false, false, false, false, false, false] (by kernel_rfl) rfl rfl trivial (fun hHeld => ?_)
        refine pure_ (i := 0) (N := some 62) (v := ?_) (a' := ?_) #[true, false, false, false, false, false, false] rfl rfl (by kernel_rfl) (fun _ _ _ h => h) (Or.inl ⟨by rfl, ?_⟩) ?_ ?_
        rotate_left
        · intro w'
          go_simp
          with_reducible rfl
        rotate_left
        · simp only [Act.put, List.setIfInBounds_toArray, List.set_cons_zero, List.set_cons_succ, i64_w, i32_w]
          rfl
        refine pure_ (i := 1) (N := some 63) (v := ?_) (a' := ?_) #[true, true, false, false, false, false, false] rfl rfl (by kernel_rfl) (fun _ _ _ h => h) (Or.inl ⟨by rfl, ?_⟩) ?_ ?_
        rotate_left
        · intro w'
          go_simp
          with_reducible rfl
        rotate_left
        · simp only [Act.put, List.setIfInBounds_toArray, List.set_cons_zero, List.set_cons_succ, i64_w, i32_w]
          rfl
        refine pure_ (i := 2) (N := some 64) (v := ?_) (a' := ?_) #[true, true, true, false, false, false, false] rfl rfl (by kernel_rfl) (fun _ _ _ h => h) (Or.inl ⟨by rfl, ?_⟩) ?_ ?_
        rotate_left
        · intro w'
          go_simp
          with_reducible rfl
        rotate_left
        · simp only [Act.put, List.setIfInBounds_toArray, List.set_cons_zero, List.set_cons_succ, i64_w, i32_w]
          rfl
        refine pure_ (i := 3) (N := some 65) (v := ?_) (a' := ?_) #[true, true, true, true, false, false, false] rfl rfl (by kernel_rfl) (fun _ _ _ h => h) (Or.inl ⟨by rfl, ?_⟩) ?_ ?_
        rotate_left
        · intro w'
          go_simp
          with_reducible rfl
        rotate_left
        · simp only [Act.put, List.setIfInBounds_toArray, List.set_cons_zero, List.set_cons_succ, i64_w, i32_w]
          rfl
        refine pure_ (i := 4) (N := some 66) (v := ?_) (a' := ?_) #[true, true, true, true, true, false, false] rfl rfl (by kernel_rfl) (fun _ _ _ h => h) (Or.inl ⟨by rfl, ?_⟩) ?_ ?_
        rotate_left
        · intro w'
          go_simp
          with_reducible rfl
        rotate_left
        · simp only [Act.put, List.setIfInBounds_toArray, List.set_cons_zero, List.set_cons_succ, i64_w, i32_w]
          rfl
        refine pure_ (i := 5) (N := some 67) (v := ?_) (a' := ?_) #[true, true, true, true, true, true, false] rfl rfl (by kernel_rfl) (fun _ _ _ h => h) (Or.inl ⟨by rfl, ?_⟩) ?_ ?_
        rotate_left
        · intro w'
          go_simp
          with_reducible rfl
        rotate_left
        · simp only [Act.put, List.setIfInBounds_toArray, List.set_cons_zero, List.set_cons_succ, i64_w, i32_w]
          rfl
        refine last_ (i := 6) (N := some 68) #[true, true, true, true, true, true, true] rfl rfl (by kernel_rfl) (by decide) (fun K hK => ?_)
        refine value_ (w1 := ((wr.alloc (.cells (wcells (pa, pb)).toArray 89)).alloc (.cells (nums .u8 (tornB t pb (S0 pa))).toArray 87)).drew.drew) (v := goInt t) (by rfl) rfl ?_ ?_
        · exact HCOPY.out _ _ _ _ _ _ _ _ rfl rfl
        refine hK.out _ _ ?_
        clear hK K
        refine norm_ (a' := ?_) ?_ ?_
        rotate_left
        · show Act.put _ (some 68) _ = _
          simp only [Act.put, List.setIfInBounds_toArray, List.set_cons_zero, List.set_cons_succ, i64_w, i32_w]
          rfl
        refine done_ (by kernel_rfl) ?_
        -- ENDW12
        go_wp2_with (first
          | ((with_reducible refine at_load_row (x := .tmp 11) (d := some 72) (wr.heap.size + 1) (nums .u8 (tornB t pb (S0 pa))).toArray (0, 0) _ HHB.out Try.underlying87 (infoBlk' _ htl) rfl ?_ ?_); rfl)
          | (go_at_call 52; ((with_reducible refine HPUT.out.mono ?_); rintro e w5 ⟨rfl, hD5, hF5⟩; have HD5 := Lib.hid hD5; have HF5 := Lib.hid (HFD.out.same hF5); have a2 : w5.cell? ⟨b, 2, none⟩ = some (.slice (some ⟨g, 0, none⟩) D.pend.length c) := (blk_cell hD5.blk 2).trans rfl; have a3 : w5.cell? ⟨b, 3, none⟩ = some (.bool D.planned) := (blk_cell hD5.blk 3).trans rfl; have b2 := blk_frozen hD5.blk 2; have b3 := blk_frozen hD5.blk 3; clear hD5 hF5)))
        go_ret
        rw [HE.out]
        exact ⟨rfl, _, (HD5.out.none_.at_).set3 _, frame_set (frame_set HF5.out HD5.out.at_.self _ _) HD5.out.at_.self _ _, fun i hi => .inl ((HD5.out.foot i).2 (hi.elim .inl (fun h => .inr (.inl h))))⟩
      · have HE : Hid (crashS D.sure D.pend k t = flush D.sure (D.pend.take k)) := Lib.hid (by
          unfold crashS
          rw [List.drop_of_length_le (by omega)])
        go_wp2
        go_ret
        rw [HE.out]
        exact ⟨rfl, _, (HD.out.none_.at_).set3 _, frame_set (frame_set HF.out HD.out.at_.self _ _) HD.out.at_.self _ _, fun i hi => .inl ((HD.out.foot i).2 (hi.elim .inl (fun h => .inr (.inl h))))⟩
end Go.Proofs.Ytlmdghafiadgjaa
