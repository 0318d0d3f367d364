/- The law DiskLives, walked. -/
import Derived.Test.YtfjeincceglfoaaRdG
import Derived.Test.YtfjeincceglfoaaDkO2
namespace Go.Proofs.Ytfjeincceglfoaa
set_option linter.unusedVariables false
set_option linter.unusedSimpArgs false
open Go.RowKit Go.Proofs.YtfjeincceglfoaaW.PrintWords Go.Proofs.YtfjeincceglfoaaW.PrintLast

/-- Both disks, side by side. -/
structure LVx (w0 w : World) (b : Nat) (D : DS) (fs : Nat → Prop) (x : Nat) (R : RS) (gs : Nat → Prop) : Prop where
  d : DiskAt w b D fs
  r : RefAt w x R gs
  dis : ∀ i, fs i → ¬ gs i
  f0 : ∀ i, fs i → w0.heap.size ≤ i
  g0 : ∀ i, gs i → w0.heap.size ≤ i
  B : Below w0.heap.size w0 w
theorem LVx.keep {w0 w w1 : World} {b x : Nat} {D : DS} {R : RS} {fs gs : Nat → Prop} (h : LVx w0 w b D fs x R gs) (hB : Below w0.heap.size w0 w1) (hf : ∀ i, fs i → w1.heap[i]? = w.heap[i]?) (hg : ∀ i, gs i → w1.heap[i]? = w.heap[i]?) : LVx w0 w1 b D fs x R gs :=
  ⟨h.d.keep hf, h.r.keep hg, h.dis, h.f0, h.g0, hB⟩
theorem LVx.below {w0 w w1 : World} {b x : Nat} {D : DS} {R : RS} {fs gs : Nat → Prop} (h : LVx w0 w b D fs x R gs) (hB : Below w.heap.size w w1) : LVx w0 w1 b D fs x R gs :=
  h.keep (below_then h.B h.B.size hB) (fun i hi => hB.block i (h.d.lt i hi)) (fun i hi => hB.block i (h.r.lt i hi))
theorem LVx.drew {w0 w : World} {b x : Nat} {D : DS} {R : RS} {fs gs : Nat → Prop} (h : LVx w0 w b D fs x R gs) : LVx w0 w.drew b D fs x R gs :=
  h.keep (b_drew h.B) (fun _ _ => rfl) (fun _ _ => rfl)
theorem LVx.call {w0 w w1 : World} {b x : Nat} {D D' : DS} {R : RS} {fs gs : Nat → Prop} (h : LVx w0 w b D fs x R gs) (e : Eff w b fs D' w1) : ∃ fs', LVx w0 w1 b D' fs' x R gs := by
  obtain ⟨fs', h1, h2, h3⟩ := e
  have hs := h.B.size
  refine ⟨fs', h1, h.r.keep (fun i hi => h2.block i (h.r.lt i hi) (fun hf => h.dis i hf hi)), fun i hi hg => ?_, fun i hi => ?_, h.g0, ?_⟩
  · rcases h3 i hi with h4 | h4
    · exact h.dis i h4 hg
    · have := h.r.lt i hg; omega
  · rcases h3 i hi with h4 | h4
    · exact h.f0 i h4
    · omega
  · exact ⟨h2.os.trans h.B.os, h2.tape.trans h.B.tape, h2.output.trans h.B.output, Nat.le_trans hs h2.size, fun i hi => (h2.block i (by omega) (fun hf => by have := h.f0 i hf; omega)).trans (h.B.block i hi)⟩
theorem LVx.model {w0 w w1 : World} {b x : Nat} {D : DS} {R R' : RS} {fs gs : Nat → Prop} (h : LVx w0 w b D fs x R gs) (e : REff w x gs R' w1) : ∃ gs', LVx w0 w1 b D fs x R' gs' := by
  obtain ⟨gs', h1, h2, h3⟩ := e
  have hs := h.B.size
  refine ⟨gs', h.d.keep (fun i hi => h2.block i (h.d.lt i hi) (fun hg => h.dis i hi hg)), h1, fun i hi hg => ?_, h.f0, fun i hi => ?_, ?_⟩
  · rcases h3 i hg with h4 | h4
    · exact h.dis i hi h4
    · have := h.d.lt i hi; omega
  · rcases h3 i hi with h4 | h4
    · exact h.g0 i h4
    · omega
  · exact ⟨h2.os.trans h.B.os, h2.tape.trans h.B.tape, h2.output.trans h.B.output, Nat.le_trans hs h2.size, fun i hi => (h2.block i (by omega) (fun hf => by have := h.g0 i hf; omega)).trans (h.B.block i hi)⟩
theorem LVx.new {w w1 w2 : World} {b : Nat} {n : Int} (hd : DiskAt w1 b (newD n) (fun i => w.heap.size ≤ i ∧ i < w1.heap.size)) (hB : Below w.heap.size w w1) (hr : RefAt w2 w1.heap.size (newR n) (fun i => i = w1.heap.size)) (hB2 : Below w1.heap.size w1 w2) :
    LVx w w2 b (newD n) (fun i => w.heap.size ≤ i ∧ i < w1.heap.size) w1.heap.size (newR n) (fun i => i = w1.heap.size) :=
  ⟨hd.below hB2, hr, fun i hi hg => by omega, fun i hi => hi.1, fun i hi => by have := hB.size; omega, below_then hB hB.size hB2⟩
theorem rread_any {x : Nat} {R : RS} {gs : Nat → Prop} {w : World} (h : RefAt w x R gs) (i : Int) {xs : List Int} {c : Int} (hc : hasV R.size i = c) (hx : (if hasV R.size i = 0 then nowR R i else []) = xs) :
    Calls Try.prog 22 #[.pointer (some ⟨x, 0, none⟩), .int .i64 i] w (ReadPost w xs c) := by
  obtain ⟨vs, vp, es, ep, h, hn⟩ := h
  subst hc; subst hx
  by_cases hv : hasV R.size i = 0
  · rw [if_pos hv, hv]
    exact rread_ok h i hv
  · rw [if_neg hv, hasV_one hv]
    refine (rread_bad h i hv).mono ?_
    rintro e w1 ⟨rfl, rfl⟩
    exact ⟨_, rfl, ORow.nil _ _ _ _, Below.refl _ _⟩
/-- Bytes at A, whatever they are, in a block that is not below B. -/
def RowA (w : World) (A : Option Addr) (m B : Nat) : Prop := m = 0 ∨ ∃ g, A = some ⟨g, 0, none⟩ ∧ RowB w g m ∧ B ≤ g
theorem RowA.pos {w : World} {A : Option Addr} {m B : Nat} (h : RowA w A m B) (hm : 0 < m) : ∃ g, A = some ⟨g, 0, none⟩ ∧ RowB w g m ∧ B ≤ g := by
  rcases h with rfl | h
  · exact absurd hm (Nat.lt_irrefl 0)
  · exact h
theorem row_reads {w : World} {base n c : Nat} {A : Option Addr} {xs : List Int} (h : ORow .u8 5 w base (.slice A n c) xs) : ReadsInt w .u8 A xs.length xs := by
  obtain ⟨A', c', he, _, hr⟩ := h.reads
  injection he with h1 h2 h3
  subst h1
  exact hr
theorem row_A {w : World} {base n c : Nat} {A : Option Addr} {xs : List Int} (h : ORow .u8 5 w base (.slice A n c) xs) (hx : Bytes xs) : RowA w A xs.length base := by
  rcases Nat.eq_zero_or_pos xs.length with h0 | h0
  · exact .inl h0
  · obtain ⟨g, cap, he, _⟩ := own_form h h0
    injection he with h1 h2 h3
    subst h1
    exact .inr ⟨g, rfl, ORow.rowB h hx, own_base h g rfl⟩
theorem frame_low {w0 w w1 : World} {hs : Nat → Prop} (h : Below w0.heap.size w0 w) (k : Frame hs w w1) (hh : ∀ i, hs i → w0.heap.size ≤ i) : Below w0.heap.size w0 w1 :=
  ⟨k.os.trans h.os, k.tape.trans h.tape, k.output.trans h.output, Nat.le_trans h.size k.size, fun i hi => (k.block i (Nat.lt_of_lt_of_le hi h.size) (fun hf => by have := hh i hf; omega)).trans (h.block i hi)⟩
def blkA (A : Option Addr) (m : Nat) : Nat → Prop := fun i => 0 < m ∧ ∃ ad, A = some ad ∧ ad.block = i
theorem RowA.set {w : World} {g m B : Nat} (h : RowA w (some ⟨g, 0, none⟩) m B) (j : Nat) {u : Int} (h0 : 0 ≤ u) (h1 : u ≤ 255) : RowA (w.setCell ⟨g, j, none⟩ (.int .u8 u)) (some ⟨g, 0, none⟩) m B := by
  rcases h with h | ⟨g', he, hr, hB⟩
  · exact .inl h
  · injection he with he
    injection he with he _ _
    subst he
    exact .inr ⟨g, rfl, hr.set j u h0 h1, hB⟩
theorem RowA.ge {w : World} {A : Option Addr} {m B : Nat} (h : RowA w A m B) : ∀ i, blkA A m i → B ≤ i := by
  rintro i ⟨h0, ad, rfl, rfl⟩
  obtain ⟨g, he, _, hB⟩ := h.pos h0
  injection he with he
  subst he
  exact hB
theorem RefAt.fields {w : World} {x : Nat} {R : RS} {gs : Nat → Prop} (h : RefAt w x R gs) : ∃ A c, w.cell? ⟨x, 0, none⟩ = some (.int .i64 R.size) ∧ w.cell? ⟨x, 2, none⟩ = some (.slice A R.pend.length c) := by
  obtain ⟨vs, vp, es, ep, h, hn⟩ := h
  obtain ⟨A, c, rfl⟩ := own_slice h.pe
  refine ⟨A, c, (blk_cell h.blk 0).trans rfl, ?_⟩
  have e : R.pend.length = ep.length := by rw [h.pend]; simp [prs]
  rw [e]
  exact (blk_cell h.blk 2).trans rfl
set_option maxRecDepth 100000 in
set_option maxHeartbeats 1000000 in
theorem lives_none (n : Int) (a : Int) (A : Option Addr) (m c : Nat) (hm : m ≤ 9223372036854775807) (w : World) (h : n < 1 ∨ (1 ≤ n ∧ 65536 < n)) :
    Calls Try.prog 5 #[.int .i64 n, .slice A m c, .int .i64 a] w fun e w' => e = .returned (.bool true) ∧ Below w.heap.size w w' := by
  have HN := Lib.hid (fun W => new_no n W h)
  have HR := Lib.hid (fun W => rnew_no n W h)
  clear h
  go_enter Try.func5, Try.ntmps5
  go_wp2_with (first
    | (go_at_call 17; ((with_reducible refine (HN.out _).mono ?_); rintro e w1 ⟨rfl, rfl⟩))
    | (go_at_call 18; ((with_reducible refine (HR.out _).mono ?_); rintro e w1 ⟨rfl, rfl⟩)))
  go_loop [11] (fun s11 => s11 = .int .i64 0) (fun _ => 0)
  case atStart => rfl
  case round =>
    obtain rfl := hrel
    by_cases hm0 : 0 < m
    · go_wp2_with (first | (go_at_call 10; ((with_reducible refine (alive_any _).mono ?_); rintro e w1 ⟨rfl, hB1⟩; have HB1 := Lib.hid hB1; clear hB1)))
      go_ret
      exact ⟨rfl, HB1.out⟩
    · go_wp2_with (first | (go_at_call 10; ((with_reducible refine (alive_any _).mono ?_); rintro e w1 ⟨rfl, hB1⟩; have HB1 := Lib.hid hB1; clear hB1)))
      go_ret
      exact ⟨rfl, HB1.out⟩
set_option maxRecDepth 100000 in
set_option maxHeartbeats 16000000 in
theorem lives_some (n : Int) (A : Option Addr) (ops : List OpV) (c : Nat) (a : Int) (w : World) (h1 : 1 ≤ n) (h2 : n ≤ 65536) (hO : OpsAt w A ops) (hok : ∀ o ∈ ops, o.OkN) (hlen : ops.length ≤ 9223372036854775807) :
    Calls Try.prog 5 #[.int .i64 n, .slice A ops.length c, .int .i64 a] w fun e w' => e = .returned (.bool true) ∧ Below w.heap.size w w' := by
  have HN := Lib.hid (new_yes n w h1 h2)
  have HR := Lib.hid (fun W => rnew_yes n W h1 h2)
  have HO := Lib.hid hO
  have HOK := Lib.hid hok
  clear h1 h2 hO hok
  go_enter Try.func5, Try.ntmps5
  go_wp2_with (first
    | (go_at_call 17; ((with_reducible refine HN.out.mono ?_); rintro e w1 ⟨b, rfl, hD, hB⟩; have HD1 := Lib.hid hD; have HB1 := Lib.hid hB; clear hD hB))
    | (go_at_call 18; ((with_reducible refine (HR.out _).mono ?_); rintro e w2 ⟨rfl, hD, hB⟩; have HL2 := Lib.hid (LVx.new HD1.out HB1.out hD hB); clear hD hB)))
  generalize hxb : w1.heap.size = x at *
  clear hxb HD1 HB1 HN HR
  go_loopw [11] (fun s11 wr => ∃ (j : Nat) (D : DS) (R : RS) (fs gs : Nat → Prop), j ≤ ops.length ∧ j ≤ 60 ∧ s11 = .int .i64 j ∧ Hid (LVx w wr b D fs x R gs) ∧ Hid (Rel D R) ∧ Hid (Room D R j)) (fun s11 _ => 60 - (intOf s11).toNat)
  case atStart => exact ⟨0, newD n, newR n, _, _, Nat.zero_le _, Nat.zero_le _, rfl, HL2, Lib.hid (Rel.new n), Lib.hid ⟨Nat.le_refl _, by show (0 : Int) ≤ _; decide, by show (-1 : Int) ≤ _; decide⟩⟩
  case round =>
    obtain ⟨j, D, R, fs, gs, hj, hj60, rfl, HL, HRel, HRoom⟩ := hrel
    clear HL2
    by_cases hlt : j < ops.length
    · by_cases hlt2 : j < 60
      · obtain ⟨ob, oo, rfl, hob, hr⟩ : ∃ b o, A = some ⟨b, o, none⟩ ∧ b < w.heap.size ∧ ∀ j (h : j < ops.length), w.rangeAt b (o + j * 7) ops[j].cells.toList := by
          rcases HO.out with h9 | h9
          · subst h9; exact absurd hlt (Nat.not_lt_zero _)
          · exact h9
        have hr1 := hr j hlt
        have hok1 := HOK.out ops[j] (List.getElem_mem hlt)
        have HBR := Lib.hid (fun (W : World) (hB : Below w.heap.size w W) (i : Nat) (v : Value) (hv : ops[j].cells.toList[i]? = some v) => show W.cell? ⟨ob, oo + j * 7 + i, none⟩ = some v from pw_cell_below hB (hr1 i v hv))
        generalize ops[j] = o at *
        clear hr hr1
        obtain ⟨hq, hrel2⟩ := HRel.out.call o
        have hroom2 := HRoom.out.call HRel.out o hok1.2
        have hpl : R.sure.length + R.pend.length ≤ 1000000000 := by have := HRoom.out.n; omega
        have hpd : D.pend.length ≤ 1000000000 := by rw [← HRel.out.pend]; omega
        have HCALL := Lib.hid (call_any b D fs o wr.drew HL.out.drew.d hok1.1 HRoom.out.d hpd)
        have HMOD := Lib.hid (fun (W : World) (D' : DS) (fs' : Nat → Prop) (hv : LVx w W b D' fs' x R gs) => model_any x R gs o W hv.r hok1.1 HRoom.out.r hpl)
        rw [hq] at HMOD
        generalize (modelR R o).2 = R2 at *
        generalize callV D o = res at *
        obtain ⟨q, D2⟩ := res
        simp only at HCALL HMOD hrel2 hroom2
        have HRel2 := Lib.hid hrel2
        have HRoom2 := Lib.hid hroom2
        obtain ⟨k, oa, on, ot, of_, obad, oe⟩ := o
        have l0 : wr.cell? ⟨ob, oo + j * 7, none⟩ = some (.int .i64 k) := HBR.out wr HL.out.B 0 _ rfl
        have l1 : wr.cell? ⟨ob, oo + j * 7 + 1, none⟩ = some (.int .i64 oa) := HBR.out wr HL.out.B 1 _ rfl
        have l2 : wr.cell? ⟨ob, oo + j * 7 + 2, none⟩ = some (.int .i64 on) := HBR.out wr HL.out.B 2 _ rfl
        have l3 : wr.cell? ⟨ob, oo + j * 7 + 3, none⟩ = some (.int .i64 ot) := HBR.out wr HL.out.B 3 _ rfl
        have l4 : wr.cell? ⟨ob, oo + j * 7 + 4, none⟩ = some (.int .u8 of_) := HBR.out wr HL.out.B 4 _ rfl
        have l5 : wr.cell? ⟨ob, oo + j * 7 + 5, none⟩ = some (.bool obad) := HBR.out wr HL.out.B 5 _ rfl
        have l6 : wr.cell? ⟨ob, oo + j * 7 + 6, none⟩ = some (.int .i64 oe) := HBR.out wr HL.out.B 6 _ rfl
        simp only [OpV.cells] at HCALL HMOD
        have hqq : (q != q) = false := by simp
        have hpp : ((D2.pend.length : Int) != (D2.pend.length : Int)) = false := by simp
        have hss : (D2.size != D2.size) = false := by simp
        clear hq hrel2 hroom2 hpl hpd hok1
        go_wp2
        -- W8
        refine start_ (n := 32) (S := fun w' => w'.cell? ⟨ob, oo + j * 7, none⟩ = some (.int .i64 k) ∧ w'.cell? ⟨ob, oo + j * 7 + 1, none⟩ = some (.int .i64 oa) ∧ w'.cell? ⟨ob, oo + j * 7 + 2, none⟩ = some (.int .i64 on) ∧ w'.cell? ⟨ob, oo + j * 7 + 3, none⟩ = some (.int .i64 ot) ∧ w'.cell? ⟨ob, oo + j * 7 + 4, none⟩ = some (.int .u8 of_) ∧ w'.cell? ⟨ob, oo + j * 7 + 5, none⟩ = some (.bool obad) ∧ w'.cell? ⟨ob, oo + j * 7 + 6, none⟩ = some (.int .i64 oe)) (ds := []) #[false, false, false, false, false, false, false, false, false, false, false, false, false, false, false, false, false, false, false, false, false, false, false, false, false, false, false, false, false, false, false, false] (by kernel_rfl) rfl rfl ⟨l0, l1, l2, l3, l4, l5, l6⟩ (fun hHeld => ?_)
        refine pure_ (i := 0) (N := some 53) (v := ?_) (a' := ?_) #[true, false, false, false, false, false, false, false, false, false, false, false, false, false, false, false, false, false, false, false, false, false, false, false, false, false, false, false, false, false, false, false] rfl rfl (by kernel_rfl) (fun _ _ _ h => h) (Or.inl ⟨by rfl, ?_⟩) ?_ ?_
        rotate_left
        · intro w'
          go_simp
          with_reducible rfl
        rotate_left
        · simp only [Act.put, List.setIfInBounds_toArray, List.set_cons_zero, List.set_cons_succ, i64_w, i32_w]
          rfl
        refine pure_ (i := 1) (N := some 54) (v := ?_) (a' := ?_) #[true, true, false, false, false, false, false, false, false, false, false, false, false, false, false, false, false, false, false, false, false, false, false, false, false, false, false, false, false, false, false, false] rfl rfl (by kernel_rfl) (fun _ _ _ h => h) (Or.inl ⟨by rfl, ?_⟩) ?_ ?_
        rotate_left
        · intro w'
          go_simp
          with_reducible rfl
        rotate_left
        · simp only [Act.put, List.setIfInBounds_toArray, List.set_cons_zero, List.set_cons_succ, i64_w, i32_w]
          rfl
        refine pure_ (i := 2) (N := some 55) (v := ?_) (a' := ?_) #[true, true, true, false, false, false, false, false, false, false, false, false, false, false, false, false, false, false, false, false, false, false, false, false, false, false, false, false, false, false, false, false] rfl rfl (by kernel_rfl) (fun _ _ _ h => h) (Or.inl ⟨by rfl, ?_⟩) ?_ ?_
        rotate_left
        · intro w'
          go_simp
          with_reducible rfl
        rotate_left
        · simp only [Act.put, List.setIfInBounds_toArray, List.set_cons_zero, List.set_cons_succ, i64_w, i32_w]
          rfl
        refine pure_ (i := 3) (N := some 56) (v := ?_) (a' := ?_) #[true, true, true, true, false, false, false, false, false, false, false, false, false, false, false, false, false, false, false, false, false, false, false, false, false, false, false, false, false, false, false, false] rfl rfl (by kernel_rfl) (fun _ _ _ h => h) (Or.inl ⟨by rfl, ?_⟩) ?_ ?_
        rotate_left
        · intro w'
          go_simp
          with_reducible rfl
        rotate_left
        · simp only [Act.put, List.setIfInBounds_toArray, List.set_cons_zero, List.set_cons_succ, i64_w, i32_w]
          rfl
        refine pure_ (i := 6) (N := some 59) (v := ?_) (a' := ?_) #[true, true, true, true, false, false, true, false, false, false, false, false, false, false, false, false, false, false, false, false, false, false, false, false, false, false, false, false, false, false, false, false] rfl rfl (by kernel_rfl) (fun _ _ _ h => h) (Or.inl ⟨by rfl, ?_⟩) ?_ ?_
        rotate_left
        · intro w'
          go_simp
          with_reducible rfl
        rotate_left
        · simp only [Act.put, List.setIfInBounds_toArray, List.set_cons_zero, List.set_cons_succ, i64_w, i32_w]
          rfl
        refine pure_ (i := 7) (N := some 60) (v := ?_) (a' := ?_) #[true, true, true, true, false, false, true, true, false, false, false, false, false, false, false, false, false, false, false, false, false, false, false, false, false, false, false, false, false, false, false, false] rfl rfl (by kernel_rfl) (fun _ _ _ h => h) (Or.inl ⟨by rfl, ?_⟩) ?_ ?_
        rotate_left
        · intro w'
          go_simp
          with_reducible rfl
        rotate_left
        · simp only [Act.put, List.setIfInBounds_toArray, List.set_cons_zero, List.set_cons_succ, i64_w, i32_w]
          rfl
        refine pure_ (i := 8) (N := some 61) (v := ?_) (a' := ?_) #[true, true, true, true, false, false, true, true, true, false, false, false, false, false, false, false, false, false, false, false, false, false, false, false, false, false, false, false, false, false, false, false] rfl rfl (by kernel_rfl) (fun _ _ _ h => h) (Or.inl ⟨by rfl, ?_⟩) ?_ ?_
        rotate_left
        · intro w'
          go_simp
          with_reducible rfl
        rotate_left
        · simp only [Act.put, List.setIfInBounds_toArray, List.set_cons_zero, List.set_cons_succ, i64_w, i32_w]
          rfl
        refine pure_ (i := 9) (N := some 62) (v := ?_) (a' := ?_) #[true, true, true, true, false, false, true, true, true, true, false, false, false, false, false, false, false, false, false, false, false, false, false, false, false, false, false, false, false, false, false, false] rfl rfl (by kernel_rfl) (fun _ _ _ h => h) (Or.inl ⟨by rfl, ?_⟩) ?_ ?_
        rotate_left
        · intro w'
          go_simp
          with_reducible rfl
        rotate_left
        · simp only [Act.put, List.setIfInBounds_toArray, List.set_cons_zero, List.set_cons_succ, i64_w, i32_w]
          rfl
        refine take_ (i := 4) (N := some 57) (v := ?_) (a' := ?_) #[true, true, true, true, true, false, true, true, true, true, false, false, false, false, false, false, false, false, false, false, false, false, false, false, false, false, false, false, false, false, false, false] rfl rfl (by kernel_rfl) (fun _ _ _ h => h) (Or.inl ⟨by rfl, ?_⟩) hHeld ?_ ?_
        rotate_left
        · rintro w' ⟨s0, s1, s2, s3, s4, s5, s6⟩
          go_simp
          with_reducible rfl
        rotate_left
        · simp only [Act.put, List.setIfInBounds_toArray, List.set_cons_zero, List.set_cons_succ, i64_w, i32_w]
          rfl
        refine take_ (i := 10) (N := some 63) (v := ?_) (a' := ?_) #[true, true, true, true, true, false, true, true, true, true, true, false, false, false, false, false, false, false, false, false, false, false, false, false, false, false, false, false, false, false, false, false] rfl rfl (by kernel_rfl) (fun _ _ _ h => h) (Or.inl ⟨by rfl, ?_⟩) hHeld ?_ ?_
        rotate_left
        · rintro w' ⟨s0, s1, s2, s3, s4, s5, s6⟩
          go_simp
          with_reducible rfl
        rotate_left
        · simp only [Act.put, List.setIfInBounds_toArray, List.set_cons_zero, List.set_cons_succ, i64_w, i32_w]
          rfl
        refine one_ (i := 5) (N := some 58) #[true, true, true, true, true, true, true, true, true, true, true, false, false, false, false, false, false, false, false, false, false, false, false, false, false, false, false, false, false, false, false, false] rfl rfl (by kernel_rfl) (by decide) (fun K hK => ?_)
        refine goes_ Try.func15 (by kernel_rfl) rfl #[.pointer (some ⟨b, 0, none⟩), .agg #[.int .i64 k, .int .i64 oa, .int .i64 on, .int .i64 ot, .int .u8 of_, .bool obad, .int .i64 oe]] (by rfl) rfl rfl (by simp only [List.map_toArray, List.map_cons, List.map_nil] <;> rfl) ?_
        with_reducible refine (HCALL.out).mono ?_
        rintro e2 w2 ⟨rfl, hE⟩
        refine ⟨_, rfl, ?_⟩
        obtain ⟨fs2, hL2⟩ := HL.out.drew.call hE
        have HL2 := Lib.hid hL2
        have c20 : w2.cell? ⟨ob, oo + j * 7, none⟩ = some (.int .i64 k) := HBR.out w2 hL2.B 0 _ rfl
        have c21 : w2.cell? ⟨ob, oo + j * 7 + 1, none⟩ = some (.int .i64 oa) := HBR.out w2 hL2.B 1 _ rfl
        have c22 : w2.cell? ⟨ob, oo + j * 7 + 2, none⟩ = some (.int .i64 on) := HBR.out w2 hL2.B 2 _ rfl
        have c23 : w2.cell? ⟨ob, oo + j * 7 + 3, none⟩ = some (.int .i64 ot) := HBR.out w2 hL2.B 3 _ rfl
        have c24 : w2.cell? ⟨ob, oo + j * 7 + 4, none⟩ = some (.int .u8 of_) := HBR.out w2 hL2.B 4 _ rfl
        have c25 : w2.cell? ⟨ob, oo + j * 7 + 5, none⟩ = some (.bool obad) := HBR.out w2 hL2.B 5 _ rfl
        have c26 : w2.cell? ⟨ob, oo + j * 7 + 6, none⟩ = some (.int .i64 oe) := HBR.out w2 hL2.B 6 _ rfl
        clear hE hL2
        refine hK.out _ _ ⟨c20, c21, c22, c23, c24, c25, c26⟩ (fun hHeld => ?_)
        clear hK K
        refine norm_ (a' := ?_) ?_ ?_
        rotate_left
        · show Act.put _ (some 58) _ = _
          simp only [Act.put, List.setIfInBounds_toArray, List.set_cons_zero, List.set_cons_succ, i64_w, i32_w]
          rfl
        refine one_ (i := 11) (N := some 64) #[true, true, true, true, true, true, true, true, true, true, true, true, false, false, false, false, false, false, false, false, false, false, false, false, false, false, false, false, false, false, false, false] rfl rfl (by kernel_rfl) (by decide) (fun K hK => ?_)
        refine goes_ Try.func19 (by kernel_rfl) rfl #[.pointer (some ⟨x, 0, none⟩), .agg #[.int .i64 k, .int .i64 oa, .int .i64 on, .int .i64 ot, .int .u8 of_, .bool obad, .int .i64 oe]] (by rfl) rfl rfl (by simp only [List.map_toArray, List.map_cons, List.map_nil] <;> rfl) ?_
        with_reducible refine (HMOD.out w2 D2 fs2 HL2.out).mono ?_
        rintro e3 w3 ⟨rfl, hE⟩
        refine ⟨_, rfl, ?_⟩
        obtain ⟨gs3, hL3⟩ := HL2.out.model hE
        have HL3 := Lib.hid hL3
        obtain ⟨Ax, cx, g0, g2⟩ := hL3.r.fields
        rw [HRel2.out.pend] at g2
        rw [HRel2.out.size] at g0
        have HPEN := Lib.hid (pending_any b D2 fs2 w3 hL3.d)
        have hpos := hL3.d.ok.pos
        have HSIZ := Lib.hid (show Calls Try.prog 21 #[.pointer (some ⟨b, 0, none⟩)] w3 fun e w' => e = .returned (.int .i64 D2.size) ∧ w3 = w' from by obtain ⟨r, v, hv⟩ := hL3.d; exact size_any b D2.size w3 ((blk_cell hv.blk 0).trans rfl) hpos)
        have c30 : w3.cell? ⟨ob, oo + j * 7, none⟩ = some (.int .i64 k) := HBR.out w3 hL3.B 0 _ rfl
        have c31 : w3.cell? ⟨ob, oo + j * 7 + 1, none⟩ = some (.int .i64 oa) := HBR.out w3 hL3.B 1 _ rfl
        have c32 : w3.cell? ⟨ob, oo + j * 7 + 2, none⟩ = some (.int .i64 on) := HBR.out w3 hL3.B 2 _ rfl
        have c33 : w3.cell? ⟨ob, oo + j * 7 + 3, none⟩ = some (.int .i64 ot) := HBR.out w3 hL3.B 3 _ rfl
        have c34 : w3.cell? ⟨ob, oo + j * 7 + 4, none⟩ = some (.int .u8 of_) := HBR.out w3 hL3.B 4 _ rfl
        have c35 : w3.cell? ⟨ob, oo + j * 7 + 5, none⟩ = some (.bool obad) := HBR.out w3 hL3.B 5 _ rfl
        have c36 : w3.cell? ⟨ob, oo + j * 7 + 6, none⟩ = some (.int .i64 oe) := HBR.out w3 hL3.B 6 _ rfl
        clear hE hL3 hpos
        refine hK.out _ _ ⟨c30, c31, c32, c33, c34, c35, c36⟩ (fun hHeld => ?_)
        clear hK K
        refine norm_ (a' := ?_) ?_ ?_
        rotate_left
        · show Act.put _ (some 64) _ = _
          simp only [Act.put, List.setIfInBounds_toArray, List.set_cons_zero, List.set_cons_succ, i64_w, i32_w]
          rfl
        refine pure_ (i := 12) (N := some 65) (v := ?_) (a' := ?_) #[true, true, true, true, true, true, true, true, true, true, true, true, true, false, false, false, false, false, false, false, false, false, false, false, false, false, false, false, false, false, false, false] rfl rfl (by kernel_rfl) (fun _ _ _ h => h) (Or.inl ⟨by rfl, ?_⟩) ?_ ?_
        rotate_left
        · intro w'
          go_simp
          with_reducible rfl
        rotate_left
        · simp only [Act.put, List.setIfInBounds_toArray, List.set_cons_zero, List.set_cons_succ, i64_w, i32_w]
          rfl
        refine pure_ (i := 13) (N := some 66) (v := ?_) (a' := ?_) #[true, true, true, true, true, true, true, true, true, true, true, true, true, true, false, false, false, false, false, false, false, false, false, false, false, false, false, false, false, false, false, false] rfl rfl (by kernel_rfl) (fun _ _ _ h => h) (Or.inl ⟨by rfl, ?_⟩) ?_ ?_
        rotate_left
        · intro w'
          go_simp
          with_reducible rfl
        rotate_left
        · simp only [Act.put, List.setIfInBounds_toArray, List.set_cons_zero, List.set_cons_succ, i64_w, i32_w]
          rfl
        refine pure_ (i := 14) (N := some 67) (v := ?_) (a' := ?_) #[true, true, true, true, true, true, true, true, true, true, true, true, true, true, true, false, false, false, false, false, false, false, false, false, false, false, false, false, false, false, false, false] rfl rfl (by kernel_rfl) (fun _ _ _ h => h) (Or.inl ⟨by rfl, ?_⟩) ?_ ?_
        rotate_left
        · intro w'
          go_simp
          with_reducible rfl
        rotate_left
        · simp only [Act.put, List.setIfInBounds_toArray, List.set_cons_zero, List.set_cons_succ, i64_w, i32_w]
          rfl
        refine pure_ (i := 16) (N := some 69) (v := ?_) (a' := ?_) #[true, true, true, true, true, true, true, true, true, true, true, true, true, true, true, false, true, false, false, false, false, false, false, false, false, false, false, false, false, false, false, false] rfl rfl (by kernel_rfl) (fun _ _ _ h => h) (Or.inl ⟨by rfl, ?_⟩) ?_ ?_
        rotate_left
        · intro w'
          go_simp
          with_reducible rfl
        rotate_left
        · simp only [Act.put, List.setIfInBounds_toArray, List.set_cons_zero, List.set_cons_succ, i64_w, i32_w]
          rfl
        refine pure_ (i := 17) (N := some 70) (v := ?_) (a' := ?_) #[true, true, true, true, true, true, true, true, true, true, true, true, true, true, true, false, true, true, false, false, false, false, false, false, false, false, false, false, false, false, false, false] rfl rfl (by kernel_rfl) (fun _ _ _ h => h) (Or.inl ⟨by rfl, ?_⟩) ?_ ?_
        rotate_left
        · intro w'
          go_simp
          with_reducible rfl
        rotate_left
        · simp only [Act.put, List.setIfInBounds_toArray, List.set_cons_zero, List.set_cons_succ, i64_w, i32_w]
          rfl
        refine pure_ (i := 18) (N := some 71) (v := ?_) (a' := ?_) #[true, true, true, true, true, true, true, true, true, true, true, true, true, true, true, false, true, true, true, false, false, false, false, false, false, false, false, false, false, false, false, false] rfl rfl (by kernel_rfl) (fun _ _ _ h => h) (Or.inl ⟨by rfl, ?_⟩) ?_ ?_
        rotate_left
        · intro w'
          go_simp
          with_reducible rfl
        rotate_left
        · simp only [Act.put, List.setIfInBounds_toArray, List.set_cons_zero, List.set_cons_succ, i64_w, i32_w]
          rfl
        refine join_ (σ := Unit) 11 #[true, true, true, true, true, true, true, true, true, true, true, true, true, true, true, true, true, true, true, true, true, false, false, false, false, false, false, false, false, false, false, false] (fun _ => [(68, .int .i64 (D2.pend.length : Int)), (72, .slice Ax D2.pend.length cx), (73, .int .i64 (D2.pend.length : Int))]) (fun _ w' => w3 = w') ?_ ?_
        rotate_left
        · intro hCont
          refine two_ (i := 15) (j := 19) (Ni := some 68) (Nj := some 72) #[true, true, true, true, true, true, true, true, true, true, true, true, true, true, true, true, true, true, true, false, false, false, false, false, false, false, false, false, false, false, false, false] #[true, true, true, true, true, true, true, true, true, true, true, true, true, true, true, false, true, true, true, true, false, false, false, false, false, false, false, false, false, false, false, false] rfl rfl rfl rfl (by kernel_rfl) (by decide) (by decide) (fun K hK => ?_) (fun K hK => ?_)
          · skip
            refine goes_ Try.func20 (by kernel_rfl) rfl #[.pointer (some ⟨b, 0, none⟩)] (by rfl) rfl rfl (by simp only [List.map_toArray, List.map_cons, List.map_nil] <;> rfl) ?_
            with_reducible refine (HPEN.out).mono ?_
            rintro e4 w4 ⟨rfl, rfl⟩
            refine ⟨_, rfl, ?_⟩
            refine hK.out _ _ ⟨c30, c31, c32, c33, c34, c35, c36⟩ (fun hHeld => ?_)
            clear hK K
            refine norm_ (a' := ?_) ?_ ?_
            rotate_left
            · show Act.put _ (some 68) _ = _
              simp only [Act.put, List.setIfInBounds_toArray, List.set_cons_zero, List.set_cons_succ, i64_w, i32_w]
              rfl
            refine one_ (i := 19) (N := some 72) #[true, true, true, true, true, true, true, true, true, true, true, true, true, true, true, true, true, true, true, true, false, false, false, false, false, false, false, false, false, false, false, false] rfl rfl (by kernel_rfl) (by decide) (fun K hK => ?_)
            refine value_ (w1 := ?_) (v := ?_) (by rfl) rfl ?_ ?_
            rotate_left 2
            · go_simp
              constructor
              · rfl
              · rfl
            refine hK.out _ _ ⟨c30, c31, c32, c33, c34, c35, c36⟩ (fun hHeld => ?_)
            clear hK K
            refine norm_ (a' := ?_) ?_ ?_
            rotate_left
            · show Act.put _ (some 72) _ = _
              simp only [Act.put, List.setIfInBounds_toArray, List.set_cons_zero, List.set_cons_succ, i64_w, i32_w]
              rfl
            refine pure_ (i := 20) (N := some 73) (v := ?_) (a' := ?_) #[true, true, true, true, true, true, true, true, true, true, true, true, true, true, true, true, true, true, true, true, true, false, false, false, false, false, false, false, false, false, false, false] rfl rfl (by kernel_rfl) (fun _ _ _ h => h) (Or.inl ⟨by rfl, ?_⟩) ?_ ?_
            rotate_left
            · intro w'
              go_simp
              with_reducible rfl
            rotate_left
            · simp only [Act.put, List.setIfInBounds_toArray, List.set_cons_zero, List.set_cons_succ, i64_w, i32_w]
              rfl
            exact norm_ (by simp only [putAll, Act.put, List.setIfInBounds_toArray, List.set_cons_zero, List.set_cons_succ]) (hCont () _ rfl)
          · skip
            refine value_ (w1 := ?_) (v := ?_) (by rfl) rfl ?_ ?_
            rotate_left 2
            · go_simp
              constructor
              · rfl
              · rfl
            refine hK.out _ _ ⟨c30, c31, c32, c33, c34, c35, c36⟩ (fun hHeld => ?_)
            clear hK K
            refine norm_ (a' := ?_) ?_ ?_
            rotate_left
            · show Act.put _ (some 72) _ = _
              simp only [Act.put, List.setIfInBounds_toArray, List.set_cons_zero, List.set_cons_succ, i64_w, i32_w]
              rfl
            refine pure_ (i := 20) (N := some 73) (v := ?_) (a' := ?_) #[true, true, true, true, true, true, true, true, true, true, true, true, true, true, true, false, true, true, true, true, true, false, false, false, false, false, false, false, false, false, false, false] rfl rfl (by kernel_rfl) (fun _ _ _ h => h) (Or.inl ⟨by rfl, ?_⟩) ?_ ?_
            rotate_left
            · intro w'
              go_simp
              with_reducible rfl
            rotate_left
            · simp only [Act.put, List.setIfInBounds_toArray, List.set_cons_zero, List.set_cons_succ, i64_w, i32_w]
              rfl
            refine one_ (i := 15) (N := some 68) #[true, true, true, true, true, true, true, true, true, true, true, true, true, true, true, true, true, true, true, true, true, false, false, false, false, false, false, false, false, false, false, false] rfl rfl (by kernel_rfl) (by decide) (fun K hK => ?_)
            refine goes_ Try.func20 (by kernel_rfl) rfl #[.pointer (some ⟨b, 0, none⟩)] (by rfl) rfl rfl (by simp only [List.map_toArray, List.map_cons, List.map_nil] <;> rfl) ?_
            with_reducible refine (HPEN.out).mono ?_
            rintro e4 w4 ⟨rfl, rfl⟩
            refine ⟨_, rfl, ?_⟩
            refine hK.out _ _ ⟨c30, c31, c32, c33, c34, c35, c36⟩ (fun hHeld => ?_)
            clear hK K
            refine norm_ (a' := ?_) ?_ ?_
            rotate_left
            · show Act.put _ (some 68) _ = _
              simp only [Act.put, List.setIfInBounds_toArray, List.set_cons_zero, List.set_cons_succ, i64_w, i32_w]
              rfl
            exact norm_ (by simp only [putAll, Act.put, List.setIfInBounds_toArray, List.set_cons_zero, List.set_cons_succ]) (hCont () _ rfl)
        rintro _ w' rfl
        have hHeld : w3.cell? ⟨ob, oo + j * 7, none⟩ = some (.int .i64 k) ∧ w3.cell? ⟨ob, oo + j * 7 + 1, none⟩ = some (.int .i64 oa) ∧ w3.cell? ⟨ob, oo + j * 7 + 2, none⟩ = some (.int .i64 on) ∧ w3.cell? ⟨ob, oo + j * 7 + 3, none⟩ = some (.int .i64 ot) ∧ w3.cell? ⟨ob, oo + j * 7 + 4, none⟩ = some (.int .u8 of_) ∧ w3.cell? ⟨ob, oo + j * 7 + 5, none⟩ = some (.bool obad) ∧ w3.cell? ⟨ob, oo + j * 7 + 6, none⟩ = some (.int .i64 oe) := ⟨c30, c31, c32, c33, c34, c35, c36⟩
        refine norm_ (a' := ?_) ?_ ?_
        rotate_left
        · simp only [putAll, Act.put, List.setIfInBounds_toArray, List.set_cons_zero, List.set_cons_succ]
          rfl
        refine pure_ (i := 21) (N := some 74) (v := ?_) (a' := ?_) #[true, true, true, true, true, true, true, true, true, true, true, true, true, true, true, true, true, true, true, true, true, true, false, false, false, false, false, false, false, false, false, false] rfl rfl (by kernel_rfl) (fun _ _ _ h => h) (Or.inl ⟨by rfl, ?_⟩) ?_ ?_
        rotate_left
        · intro w'
          go_simp
          with_reducible rfl
        rotate_left
        · simp only [Act.put, List.setIfInBounds_toArray, List.set_cons_zero, List.set_cons_succ, i64_w, i32_w]
          rfl
        refine pure_ (i := 22) (N := some 75) (v := ?_) (a' := ?_) #[true, true, true, true, true, true, true, true, true, true, true, true, true, true, true, true, true, true, true, true, true, true, true, false, false, false, false, false, false, false, false, false] rfl rfl (by kernel_rfl) (fun _ _ _ h => h) (Or.inl ⟨by rfl, ?_⟩) ?_ ?_
        rotate_left
        · intro w'
          go_simp
          with_reducible rfl
        rotate_left
        · simp only [Act.put, List.setIfInBounds_toArray, List.set_cons_zero, List.set_cons_succ, i64_w, i32_w]
          rfl
        refine pure_ (i := 23) (N := some 76) (v := ?_) (a' := ?_) #[true, true, true, true, true, true, true, true, true, true, true, true, true, true, true, true, true, true, true, true, true, true, true, true, false, false, false, false, false, false, false, false] rfl rfl (by kernel_rfl) (fun _ _ _ h => h) (Or.inl ⟨by rfl, ?_⟩) ?_ ?_
        rotate_left
        · intro w'
          go_simp
          with_reducible rfl
        rotate_left
        · simp only [Act.put, List.setIfInBounds_toArray, List.set_cons_zero, List.set_cons_succ, i64_w, i32_w]
          rfl
        refine pure_ (i := 24) (N := some 77) (v := ?_) (a' := ?_) #[true, true, true, true, true, true, true, true, true, true, true, true, true, true, true, true, true, true, true, true, true, true, true, true, true, false, false, false, false, false, false, false] rfl rfl (by kernel_rfl) (fun _ _ _ h => h) (Or.inl ⟨by rfl, ?_⟩) ?_ ?_
        rotate_left
        · intro w'
          go_simp
          with_reducible rfl
        rotate_left
        · simp only [Act.put, List.setIfInBounds_toArray, List.set_cons_zero, List.set_cons_succ, i64_w, i32_w]
          rfl
        refine pure_ (i := 26) (N := some 79) (v := ?_) (a' := ?_) #[true, true, true, true, true, true, true, true, true, true, true, true, true, true, true, true, true, true, true, true, true, true, true, true, true, false, true, false, false, false, false, false] rfl rfl (by kernel_rfl) (fun _ _ _ h => h) (Or.inl ⟨by rfl, ?_⟩) ?_ ?_
        rotate_left
        · intro w'
          go_simp
          with_reducible rfl
        rotate_left
        · simp only [Act.put, List.setIfInBounds_toArray, List.set_cons_zero, List.set_cons_succ, i64_w, i32_w]
          rfl
        refine pure_ (i := 27) (N := some 80) (v := ?_) (a' := ?_) #[true, true, true, true, true, true, true, true, true, true, true, true, true, true, true, true, true, true, true, true, true, true, true, true, true, false, true, true, false, false, false, false] rfl rfl (by kernel_rfl) (fun _ _ _ h => h) (Or.inl ⟨by rfl, ?_⟩) ?_ ?_
        rotate_left
        · intro w'
          go_simp
          with_reducible rfl
        rotate_left
        · simp only [Act.put, List.setIfInBounds_toArray, List.set_cons_zero, List.set_cons_succ, i64_w, i32_w]
          rfl
        refine pure_ (i := 28) (N := some 81) (v := ?_) (a' := ?_) #[true, true, true, true, true, true, true, true, true, true, true, true, true, true, true, true, true, true, true, true, true, true, true, true, true, false, true, true, true, false, false, false] rfl rfl (by kernel_rfl) (fun _ _ _ h => h) (Or.inl ⟨by rfl, ?_⟩) ?_ ?_
        rotate_left
        · intro w'
          go_simp
          with_reducible rfl
        rotate_left
        · simp only [Act.put, List.setIfInBounds_toArray, List.set_cons_zero, List.set_cons_succ, i64_w, i32_w]
          rfl
        refine join_ (σ := Unit) 2 #[true, true, true, true, true, true, true, true, true, true, true, true, true, true, true, true, true, true, true, true, true, true, true, true, true, true, true, true, true, true, false, false] (fun _ => [(78, .int .i64 D2.size), (82, .int .i64 D2.size)]) (fun _ w' => w3 = w') ?_ ?_
        rotate_left
        · intro hCont
          refine two_ (i := 25) (j := 29) (Ni := some 78) (Nj := some 82) #[true, true, true, true, true, true, true, true, true, true, true, true, true, true, true, true, true, true, true, true, true, true, true, true, true, true, true, true, true, false, false, false] #[true, true, true, true, true, true, true, true, true, true, true, true, true, true, true, true, true, true, true, true, true, true, true, true, true, false, true, true, true, true, false, false] rfl rfl rfl rfl (by kernel_rfl) (by decide) (by decide) (fun K hK => ?_) (fun K hK => ?_)
          · skip
            refine goes_ Try.func21 (by kernel_rfl) rfl #[.pointer (some ⟨b, 0, none⟩)] (by rfl) rfl rfl (by simp only [List.map_toArray, List.map_cons, List.map_nil] <;> rfl) ?_
            with_reducible refine (HSIZ.out).mono ?_
            rintro e5 w5 ⟨rfl, rfl⟩
            refine ⟨_, rfl, ?_⟩
            refine hK.out _ _ ⟨c30, c31, c32, c33, c34, c35, c36⟩ (fun hHeld => ?_)
            clear hK K
            refine norm_ (a' := ?_) ?_ ?_
            rotate_left
            · show Act.put _ (some 78) _ = _
              simp only [Act.put, List.setIfInBounds_toArray, List.set_cons_zero, List.set_cons_succ, i64_w, i32_w]
              rfl
            refine one_ (i := 29) (N := some 82) #[true, true, true, true, true, true, true, true, true, true, true, true, true, true, true, true, true, true, true, true, true, true, true, true, true, true, true, true, true, true, false, false] rfl rfl (by kernel_rfl) (by decide) (fun K hK => ?_)
            refine value_ (w1 := ?_) (v := ?_) (by rfl) rfl ?_ ?_
            rotate_left 2
            · go_simp
              constructor
              · rfl
              · rfl
            refine hK.out _ _ ⟨c30, c31, c32, c33, c34, c35, c36⟩ (fun hHeld => ?_)
            clear hK K
            refine norm_ (a' := ?_) ?_ ?_
            rotate_left
            · show Act.put _ (some 82) _ = _
              simp only [Act.put, List.setIfInBounds_toArray, List.set_cons_zero, List.set_cons_succ, i64_w, i32_w]
              rfl
            exact norm_ (by simp only [putAll, Act.put, List.setIfInBounds_toArray, List.set_cons_zero, List.set_cons_succ]) (hCont () _ rfl)
          · skip
            refine value_ (w1 := ?_) (v := ?_) (by rfl) rfl ?_ ?_
            rotate_left 2
            · go_simp
              constructor
              · rfl
              · rfl
            refine hK.out _ _ ⟨c30, c31, c32, c33, c34, c35, c36⟩ (fun hHeld => ?_)
            clear hK K
            refine norm_ (a' := ?_) ?_ ?_
            rotate_left
            · show Act.put _ (some 82) _ = _
              simp only [Act.put, List.setIfInBounds_toArray, List.set_cons_zero, List.set_cons_succ, i64_w, i32_w]
              rfl
            refine one_ (i := 25) (N := some 78) #[true, true, true, true, true, true, true, true, true, true, true, true, true, true, true, true, true, true, true, true, true, true, true, true, true, true, true, true, true, true, false, false] rfl rfl (by kernel_rfl) (by decide) (fun K hK => ?_)
            refine goes_ Try.func21 (by kernel_rfl) rfl #[.pointer (some ⟨b, 0, none⟩)] (by rfl) rfl rfl (by simp only [List.map_toArray, List.map_cons, List.map_nil] <;> rfl) ?_
            with_reducible refine (HSIZ.out).mono ?_
            rintro e5 w5 ⟨rfl, rfl⟩
            refine ⟨_, rfl, ?_⟩
            refine hK.out _ _ ⟨c30, c31, c32, c33, c34, c35, c36⟩ (fun hHeld => ?_)
            clear hK K
            refine norm_ (a' := ?_) ?_ ?_
            rotate_left
            · show Act.put _ (some 78) _ = _
              simp only [Act.put, List.setIfInBounds_toArray, List.set_cons_zero, List.set_cons_succ, i64_w, i32_w]
              rfl
            exact norm_ (by simp only [putAll, Act.put, List.setIfInBounds_toArray, List.set_cons_zero, List.set_cons_succ]) (hCont () _ rfl)
        rintro _ w' rfl
        have hHeld : w3.cell? ⟨ob, oo + j * 7, none⟩ = some (.int .i64 k) ∧ w3.cell? ⟨ob, oo + j * 7 + 1, none⟩ = some (.int .i64 oa) ∧ w3.cell? ⟨ob, oo + j * 7 + 2, none⟩ = some (.int .i64 on) ∧ w3.cell? ⟨ob, oo + j * 7 + 3, none⟩ = some (.int .i64 ot) ∧ w3.cell? ⟨ob, oo + j * 7 + 4, none⟩ = some (.int .u8 of_) ∧ w3.cell? ⟨ob, oo + j * 7 + 5, none⟩ = some (.bool obad) ∧ w3.cell? ⟨ob, oo + j * 7 + 6, none⟩ = some (.int .i64 oe) := ⟨c30, c31, c32, c33, c34, c35, c36⟩
        refine norm_ (a' := ?_) ?_ ?_
        rotate_left
        · simp only [putAll, Act.put, List.setIfInBounds_toArray, List.set_cons_zero, List.set_cons_succ]
          rfl
        refine pure_ (i := 30) (N := some 83) (v := ?_) (a' := ?_) #[true, true, true, true, true, true, true, true, true, true, true, true, true, true, true, true, true, true, true, true, true, true, true, true, true, true, true, true, true, true, true, false] rfl rfl (by kernel_rfl) (fun _ _ _ h => h) (Or.inl ⟨by rfl, ?_⟩) ?_ ?_
        rotate_left
        · intro w'
          go_simp
          with_reducible rfl
        rotate_left
        · simp only [Act.put, List.setIfInBounds_toArray, List.set_cons_zero, List.set_cons_succ, i64_w, i32_w]
          rfl
        refine pure_ (i := 31) (N := some 84) (v := ?_) (a' := ?_) #[true, true, true, true, true, true, true, true, true, true, true, true, true, true, true, true, true, true, true, true, true, true, true, true, true, true, true, true, true, true, true, true] rfl rfl (by kernel_rfl) (fun _ _ _ h => h) (Or.inl ⟨by rfl, ?_⟩) ?_ ?_
        rotate_left
        · intro w'
          go_simp
          with_reducible rfl
        rotate_left
        · simp only [Act.put, List.setIfInBounds_toArray, List.set_cons_zero, List.set_cons_succ, i64_w, i32_w]
          rfl
        refine done_ (by kernel_rfl) ?_
        -- ENDW8
        go_wp2
        have HL3' := Lib.hid HL3.out
        clear HCALL HMOD HL2 HL HRel HRoom HPEN HSIZ l0 l1 l2 l3 l4 l5 l6 c20 c21 c22 c23 c24 c25 c26 c30 c31 c32 c33 c34 c35 c36 hHeld HBR g0 g2 hob
        go_loopw [12] (fun s12 wk => ∃ i : Nat, i ≤ 4 ∧ s12 = .int .i64 i ∧ Hid (LVx w wk b D2 fs2 x R2 gs3)) (fun s12 _ => 4 - (intOf s12).toNat)
        case atStart => exact ⟨0, by omega, rfl, HL3⟩
        case round =>
          obtain ⟨i, hi, rfl, HLr⟩ := hrel
          obtain ⟨wm, hwm⟩ : ∃ wm, wm = wr := ⟨wr, rfl⟩
          subst hwm
          by_cases hi4 : i < 4
          · by_cases hi3 : i = 3
            · subst hi3
              have HRD := Lib.hid (read_any b D2 fs2 a wm HLr.out.d)
              have HRR := Lib.hid (fun (W : World) (hv : LVx w W b D2 fs2 x R2 gs3) => rread_any hv.r a (xs := readR D2 a) (c := hasV D2.size a) (by rw [HRel2.out.size]) (by rw [HRel2.out.size]; unfold readR; rw [HRel2.out.read]))
              have hxb := (readR_bytes D2 HLr.out.d.ok a).1
              generalize readR D2 a = xs at *
              generalize hasV D2.size a = hc at *
              unfold ReadPost at HRD HRR
              have HXB := Lib.hid hxb
              clear hxb
              go_wp2_with (first
                | (go_at_call 14; ((with_reducible refine HRD.out.mono ?_); rintro e w4 ⟨va, rfl, hO, hB⟩; obtain ⟨Aa, ca, rfl⟩ := own_slice hO; have HO4 := Lib.hid hO; have HL4 := Lib.hid (HLr.out.below hB); have HBa := Lib.hid hB; clear hO hB))
                | (go_at_call 22; ((with_reducible refine (HRR.out _ HL4.out).mono ?_); rintro e w5 ⟨vb, rfl, hO, hB⟩; obtain ⟨Ab, cb, rfl⟩ := own_slice hO; have HL5 := Lib.hid (HL4.out.below hB); have HO5 := Lib.hid (ORow.below HO4.out hB); have HBb := Lib.hid (below_then HBa.out HBa.out.size hB); have kc1 := string_of_reads (P := Try.prog) (c := ca) Try.underlying31 Try.underlying5 Try.underlying9 (row_reads HO5.out); have kc2 := string_of_reads (P := Try.prog) (c := cb) Try.underlying31 Try.underlying5 Try.underlying9 (row_reads hO); clear hO hB)))
              have HRA := Lib.hid (row_A HO5.out HXB.out)
              have hml := own_max HO5.out
              clear HO4 HO5 HXB HRD HRR kc1 kc2
              generalize xs.length = m at *
              go_loopw [18] (fun s18 wq => ∃ n2 : Nat, n2 ≤ m ∧ s18 = .int .i64 n2 ∧ Hid (RowA wq Aa m wm.heap.size) ∧ Hid (Frame (blkA Aa m) w5 wq)) (fun s18 _ => m - (intOf s18).toNat)
              case atStart => exact ⟨0, Nat.zero_le _, rfl, HRA, Lib.hid (Frame.refl _ _)⟩
              case round =>
                obtain ⟨n2, hn2, rfl, HR, HF⟩ := hrel
                by_cases hnl : n2 < m
                · obtain ⟨g, rfl, hrb, hgB⟩ := RowA.pos HR.out (by omega)
                  obtain ⟨cur, tt, hb, hc2⟩ := hrb
                  obtain ⟨y, hy, hy0, hy1⟩ := hc2 n2 hnl
                  have cj : wr.cell? ⟨g, n2, none⟩ = some (.int .u8 y) := (blk_cell hb n2).trans hy
                  have fj := blk_frozen hb n2
                  clear hb hc2 hy
                  go_wp2
                  go_roundw
                  case rel => exact ⟨n2 + 1, by omega, by go_num, Lib.hid (HR.out.set n2 (xr_range _ _).1 (xr_range _ _).2), Lib.hid (Frame.setCell (p := ⟨g, n2, none⟩) HF.out (.inl ⟨by omega, ⟨g, 0, none⟩, rfl, rfl⟩) _)⟩
                  case measure => simp [intOf]; omega
                · obtain rfl : n2 = m := by omega
                  have HBLK : Hid (∀ i, blkA Aa n2 i → wm.heap.size ≤ i) := Lib.hid (HR.out.ge)
                  have HLN : Hid (LVx w wr b D2 fs2 x R2 gs3) := Lib.hid (HL5.out.keep (frame_low HL5.out.B HF.out (fun i hi => Nat.le_trans HLr.out.B.size (HBLK.out i hi))) (fun i hi => HF.out.block i (HL5.out.d.lt i hi) (fun hq => by have := HBLK.out i hq; have := HLr.out.d.lt i hi; omega)) (fun i hi => HF.out.block i (HL5.out.r.lt i hi) (fun hq => by have := HBLK.out i hq; have := HLr.out.r.lt i hi; omega)))
                  go_wp2
                  go_roundw
                  case rel => exact ⟨3 + 1, by omega, by go_num, HLN⟩
                  case measure => simp [intOf]
            · have hi3b : ((i : Int) == 3) = false := by simp; omega
              have HRD := Lib.hid (read_any b D2 fs2 (i : Int) wm HLr.out.d)
              have HRR := Lib.hid (fun (W : World) (hv : LVx w W b D2 fs2 x R2 gs3) => rread_any hv.r (i : Int) (xs := readR D2 (i : Int)) (c := hasV D2.size (i : Int)) (by rw [HRel2.out.size]) (by rw [HRel2.out.size]; unfold readR; rw [HRel2.out.read]))
              have hxb := (readR_bytes D2 HLr.out.d.ok (i : Int)).1
              generalize readR D2 (i : Int) = xs at *
              generalize hasV D2.size (i : Int) = hc at *
              unfold ReadPost at HRD HRR
              have HXB := Lib.hid hxb
              clear hxb
              go_wp2_with (first
                | (go_at_call 14; ((with_reducible refine HRD.out.mono ?_); rintro e w4 ⟨va, rfl, hO, hB⟩; obtain ⟨Aa, ca, rfl⟩ := own_slice hO; have HO4 := Lib.hid hO; have HL4 := Lib.hid (HLr.out.below hB); have HBa := Lib.hid hB; clear hO hB))
                | (go_at_call 22; ((with_reducible refine (HRR.out _ HL4.out).mono ?_); rintro e w5 ⟨vb, rfl, hO, hB⟩; obtain ⟨Ab, cb, rfl⟩ := own_slice hO; have HL5 := Lib.hid (HL4.out.below hB); have HO5 := Lib.hid (ORow.below HO4.out hB); have HBb := Lib.hid (below_then HBa.out HBa.out.size hB); have kc1 := string_of_reads (P := Try.prog) (c := ca) Try.underlying31 Try.underlying5 Try.underlying9 (row_reads HO5.out); have kc2 := string_of_reads (P := Try.prog) (c := cb) Try.underlying31 Try.underlying5 Try.underlying9 (row_reads hO); clear hO hB)))
              have HRA := Lib.hid (row_A HO5.out HXB.out)
              have hml := own_max HO5.out
              clear HO4 HO5 HXB HRD HRR kc1 kc2
              generalize xs.length = m at *
              go_loopw [18] (fun s18 wq => ∃ n2 : Nat, n2 ≤ m ∧ s18 = .int .i64 n2 ∧ Hid (RowA wq Aa m wm.heap.size) ∧ Hid (Frame (blkA Aa m) w5 wq)) (fun s18 _ => m - (intOf s18).toNat)
              case atStart => exact ⟨0, Nat.zero_le _, rfl, HRA, Lib.hid (Frame.refl _ _)⟩
              case round =>
                obtain ⟨n2, hn2, rfl, HR, HF⟩ := hrel
                by_cases hnl : n2 < m
                · obtain ⟨g, rfl, hrb, hgB⟩ := RowA.pos HR.out (by omega)
                  obtain ⟨cur, tt, hb, hc2⟩ := hrb
                  obtain ⟨y, hy, hy0, hy1⟩ := hc2 n2 hnl
                  have cj : wr.cell? ⟨g, n2, none⟩ = some (.int .u8 y) := (blk_cell hb n2).trans hy
                  have fj := blk_frozen hb n2
                  clear hb hc2 hy
                  go_wp2
                  go_roundw
                  case rel => exact ⟨n2 + 1, by omega, by go_num, Lib.hid (HR.out.set n2 (xr_range _ _).1 (xr_range _ _).2), Lib.hid (Frame.setCell (p := ⟨g, n2, none⟩) HF.out (.inl ⟨by omega, ⟨g, 0, none⟩, rfl, rfl⟩) _)⟩
                  case measure => simp [intOf]; omega
                · obtain rfl : n2 = m := by omega
                  have HBLK : Hid (∀ i, blkA Aa n2 i → wm.heap.size ≤ i) := Lib.hid (HR.out.ge)
                  have HLN : Hid (LVx w wr b D2 fs2 x R2 gs3) := Lib.hid (HL5.out.keep (frame_low HL5.out.B HF.out (fun i hi => Nat.le_trans HLr.out.B.size (HBLK.out i hi))) (fun i hi => HF.out.block i (HL5.out.d.lt i hi) (fun hq => by have := HBLK.out i hq; have := HLr.out.d.lt i hi; omega)) (fun i hi => HF.out.block i (HL5.out.r.lt i hi) (fun hq => by have := HBLK.out i hq; have := HLr.out.r.lt i hi; omega)))
                  go_wp2
                  go_roundw
                  case rel => exact ⟨i + 1, by omega, by go_num, HLN⟩
                  case measure => simp [intOf]; omega
          · obtain rfl : i = 4 := by omega
            go_wp2
            go_roundw
            case rel => exact ⟨j + 1, D2, R2, fs2, gs3, by omega, by omega, by go_num, HLr, HRel2, HRoom2⟩
            case measure => simp [intOf]; omega
      · obtain rfl : j = 60 := by omega
        go_wp2_with (first | (go_at_call 10; ((with_reducible refine (alive_any _).mono ?_); rintro e w1 ⟨rfl, hB1⟩; have HB1 := Lib.hid (below_then HL.out.B HL.out.B.size hB1); clear hB1)))
        go_ret
        exact ⟨rfl, HB1.out⟩
    · go_wp2_with (first | (go_at_call 10; ((with_reducible refine (alive_any _).mono ?_); rintro e w1 ⟨rfl, hB1⟩; have HB1 := Lib.hid (below_then HL.out.B HL.out.B.size hB1); clear hB1)))
      go_ret
      exact ⟨rfl, HB1.out⟩
theorem lives_law (n : Int) (A : Option Addr) (ops : List OpV) (c : Nat) (a : Int) (w : World) (_ : (Lit.int .i64 n).wf = true) (hO : OpsAt w A ops) (hok : ∀ o ∈ ops, o.OkN) (hlen : ops.length ≤ 9223372036854775807) (_ : (Lit.int .i64 a).wf = true) :
    Calls Try.prog 5 #[.int .i64 n, .slice A ops.length c, .int .i64 a] w fun e w' => e = .returned (.bool true) ∧ Below w.heap.size w w' := by
  by_cases h : 1 ≤ n ∧ n ≤ 65536
  · exact lives_some n A ops c a w h.1 h.2 hO hok hlen
  · exact lives_none n a A ops.length c hlen w (by omega)
end Go.Proofs.Ytfjeincceglfoaa
