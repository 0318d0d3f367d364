/- The law PagesLives, walked. -/
import Derived.Test.YtlmdghafiadgjaaPgL0
import Derived.Test.YtlmdghafiadgjaaPgB
import Derived.BigQuiet
namespace Go.Proofs.Ytlmdghafiadgjaa
set_option maxRecDepth 100000
set_option linter.unusedVariables false
set_option linter.unusedSimpArgs false
open Go.RowKit Go.Proofs.YtlmdghafiadgjaaW.PrintWords Go.Proofs.YtlmdghafiadgjaaW.PrintLast

theorem infoOp : (Try.prog.info? 60).map (·.size) = some 6 := by kernel_rfl
theorem po_all (o : PO) : o.cells.all (·.oneCell') = true := by
  obtain ⟨a, b, c, d, e, ⟨x, y, z⟩⟩ := o
  simp [PO.cells, BR.v, Value.oneCell']
def ones6 (cs : Array Value) : Bool := decide (cs.size = 6) && cs.all (·.oneCell')
theorem store_po (d : Option Tmp) (x y : Operand) (ty' : TypeId) (pos : String) (af : Array Edge) (gd : Option (Nat × Bool)) (ev : Operand → Value) (W0 : World) (c : Array Value) :
    (execOp ev ⟨d, .store 60 x y, ty', pos, af, gd⟩).run Try.prog (W0.alloc (.cells c 60)) = match ev x, ev y with
    | .pointer (some ⟨g, 0, none⟩), .agg cs => if g = W0.heap.size ∧ c.size = 6 ∧ ones6 cs = true then .ok .skip (W0.alloc (.cells cs 60)) else loadElse ev ⟨d, .store 60 x y, ty', pos, af, gd⟩ (W0.alloc (.cells c 60))
    | _, _ => loadElse ev ⟨d, .store 60 x y, ty', pos, af, gd⟩ (W0.alloc (.cells c 60)) := by
  split
  · rename_i g cs hx hy
    split
    · rename_i h
      obtain ⟨rfl, h1, h4⟩ := h
      obtain ⟨h2, h3⟩ : cs.size = 6 ∧ cs.all (·.oneCell') = true := by simpa [ones6] using h4
      exact store_new_run (P := Try.prog) W0 c cs 60 ev d ty' x y pos af gd (infoOp.trans (congrArg some h2.symm)) (h1.trans h2.symm) h3 hx hy
    · rfl
  · rfl
attribute [local go_sem ↓] store_po
set_option maxHeartbeats 4000000 in
theorem lives29_great (n : Int) (A : Option Addr) (m c : Nat) (w : World) (h : 200 < n) :
    Calls Try.prog 7 #[.int .i64 n, .slice A m c] w fun e w' => e = .returned (.bool true) ∧ Below w.heap.size w w' := by
  go_enter Try.func7, Try.ntmps7
  go_wp2_with (first
    | (go_at_call 9; ((with_reducible refine (alive_any _).mono ?_); rintro e3 w3 ⟨rfl, hB⟩; have HB4 := Lib.hid hB; clear hB)))
  go_ret
  exact ⟨rfl, HB4.out⟩
set_option maxHeartbeats 4000000 in
theorem lives29_none (n : Int) (A : Option Addr) (m c : Nat) (w : World) (h : n < 1) :
    Calls Try.prog 7 #[.int .i64 n, .slice A m c] w fun e w' => e = .returned (.bool true) ∧ Below w.heap.size w w' := by
  have hn : ¬ 200 < n := by omega
  have HN := Lib.hid (fun W => new_no n W (.inl h))
  have HR := Lib.hid (fun W => rnew_no n W (.inl h))
  go_enter Try.func7, Try.ntmps7
  go_wp2_with (first
    | (go_at_call 21; ((with_reducible refine (HN.out _).mono ?_); rintro e w1 ⟨rfl, rfl⟩))
    | (go_at_call 22; ((with_reducible refine (HR.out _).mono ?_); rintro e w1 ⟨rfl, rfl⟩))
    | (go_at_call 9; ((with_reducible refine (alive_any _).mono ?_); rintro e3 w3 ⟨rfl, hB⟩; have HB4 := Lib.hid hB; clear hB)))
  go_ret
  exact ⟨rfl, HB4.out⟩
theorem ref_fail {w : World} {y x : Nat} {gs : Nat → Prop} {R : RS} {t : SV} (h : RefAt w x R gs) (k : RStoreAt w y x t.T t.R t.B gs) (a e0 : Int) :
    Calls Try.prog 27 #[.pointer (some ⟨x, 0, none⟩), .int .i64 a, .int .i64 e0] w fun e w' => e = .returned (.int .i64 (failR R a e0).1) ∧ EffR w y x gs (failR R a e0).2 t.T t.R t.B w' := by
  obtain ⟨vs, vp, es, ep, hv, hn⟩ := h
  refine (rfail_any hv a e0).mono ?_
  rintro e w1 ⟨rfl, h1, h2⟩
  exact ⟨rfl, EffR.of k (REff.of h1 hn h2)⟩
theorem ref_crash {w : World} {y x : Nat} {gs : Nat → Prop} {R : RS} {t : SV} (h : RefAt w x R gs) (k : RStoreAt w y x t.T t.R t.B gs) (a e0 : Int) (hp : R.sure.length + R.pend.length ≤ 1000000000) :
    Calls Try.prog 29 #[.pointer (some ⟨x, 0, none⟩), .int .i64 a, .int .i64 e0] w fun e w' => e = .returned (.tuple #[]) ∧ EffR w y x gs (crashR R a e0) t.T t.R t.B w' := by
  obtain ⟨vs, vp, es, ep, hv, hn⟩ := h
  refine (rcrash_v hv hn a e0 hp).mono ?_
  rintro e w1 ⟨rfl, h1⟩
  exact ⟨rfl, EffR.of k h1⟩
theorem pl_fail {w : World} {p b : Nat} {fs : Nat → Prop} {D : DS} {s : SV} (h : DiskAt w b D fs) (k : StoreAt w p b s.T s.R s.B fs) (a e0 : Int) :
    Calls Try.prog 26 #[.pointer (some ⟨b, 0, none⟩), .int .i64 a, .int .i64 e0] w fun e w' => e = .returned (.int .i64 (failV D a e0).1) ∧ EffS w p b fs (failV D a e0).2 s.T s.R s.B w' := by
  refine (fail_any b D fs a e0 w h).mono ?_
  rintro e w1 ⟨rfl, g1, g2⟩
  exact ⟨rfl, EffS.of k ⟨fs, g1, g2, fun _ h => .inl h⟩⟩
theorem pl_crash {w : World} {p b : Nat} {fs : Nat → Prop} {D : DS} {s : SV} (h : DiskAt w b D fs) (k : StoreAt w p b s.T s.R s.B fs) (a e0 : Int) :
    Calls Try.prog 28 #[.pointer (some ⟨b, 0, none⟩), .int .i64 a, .int .i64 e0] w fun e w' => e = .returned (.int .i64 0) ∧ EffS w p b fs (crashV D a e0) s.T s.R s.B w' := by
  refine (crash_any b D fs a e0 w h).mono ?_
  rintro e w1 ⟨rfl, g1⟩
  exact ⟨rfl, EffS.of k g1⟩
theorem RStoreAt.rrow {w : World} {y x : Nat} {T : Int} {R : List Int} {B : Bool} {gs : Nat → Prop} (h : RStoreAt w y x T R B gs) : ∃ A c, w.cell? ⟨y, 2, none⟩ = some (.slice A R.length c) ∧ ReadsInt w .u8 A R.length R := by
  obtain ⟨v, h1, h2, _⟩ := h
  obtain ⟨A, c, rfl, _, hr⟩ := h2.reads
  exact ⟨A, c, (blk_cell h1 2).trans rfl, hr⟩
theorem scommitV_rl (D : DS) (T : Int) (R : List Int) (B : Bool) (xs : List Int) (h : R.length ≤ 996) : (scommitV D T R B xs).R.length ≤ 996 := by
  unfold scommitV
  split
  · exact h
  split
  · exact h
  · rename_i h1
    have hl : xs.length ≤ 996 := by
      refine Classical.byContradiction fun h9 => h1 (fun h8 => ?_)
      unfold packV at h8
      rw [if_pos (by omega)] at h8
      cases h8
    split
    · exact h
    split
    · exact h
    split
    · exact h
    · exact hl
theorem scommitV_size (D : DS) (T : Int) (R : List Int) (B : Bool) (xs : List Int) : (scommitV D T R B xs).D.size = D.size := by
  have h1 := (syncV_keeps D).2.2
  have h2 := fun b => (stoV_keeps (syncV D).2 (nxT T % 2) b 4).2.2
  have h3 := fun b => (syncV_keeps (storeV (syncV D).2 (nxT T % 2) b).2).2.2
  unfold scommitV
  split
  · rfl
  split
  · rfl
  split
  · exact h1
  split
  · exact (h2 _).trans h1
  split
  · exact (h3 _).trans ((h2 _).trans h1)
  · exact (h3 _).trans ((h2 _).trans h1)
theorem swriteV_size (D : DS) (T : Int) (B : Bool) (n k : Int) (xs : List Int) : (swriteV D T B n k xs).2.1.size = D.size := by
  unfold swriteV
  split
  · rfl
  split
  · rfl
  split
  · rfl
  · exact (stoV_keeps D n _ 4).2.2
theorem failV_size (D : DS) (a e : Int) : (failV D a e).2.size = D.size := by
  unfold failV
  split <;> rfl
theorem opened_at {w0 w w1 w2 : World} {b x p y : Nat} {D : DS} {R : RS} {fs gs : Nat → Prop} {T : Int × List Int} (h : PDx w0 w b D fs x R gs) (hB1 : Below w.heap.size w w1) (hs : StoreAt w1 p b T.1 T.2 false fs) (hp : w.heap.size ≤ p) (hn : RootNew w w1 p) (hB2 : Below w1.heap.size w1 w2) (ht : RStoreAt w2 y x T.1 T.2 false gs) (hy : w1.heap.size ≤ y) (hn2 : RootNew w1 w2 y) {s : SV} (hT : T = (s.T, s.R) ∧ s.B = false) : PLx w0 w2 b D fs p s x R gs y s [] := by
  obtain ⟨rfl, h2⟩ := hT
  refine h.opened hB1 (s := s) (t := s) ?_ hp hn hB2 ?_ hy hn2
  · rw [h2]; exact hs
  · rw [h2]; exact ht
theorem reopened_at {w0 w w1 w2 : World} {b x p y p0 y0 : Nat} {D : DS} {R : RS} {fs gs : Nat → Prop} {s0 t0 : SV} {ko : List (Nat × Obj)} {T : Int × List Int} (h : PLx w0 w b D fs p0 s0 x R gs y0 t0 ko) (hB1 : Below w.heap.size w w1) (hs : StoreAt w1 p b T.1 T.2 false fs) (hp : w.heap.size ≤ p) (hn : RootNew w w1 p) (hB2 : Below w1.heap.size w1 w2) (ht : RStoreAt w2 y x T.1 T.2 false gs) (hy : w1.heap.size ≤ y) (hn2 : RootNew w1 w2 y) {s : SV} (hT : T = (s.T, s.R) ∧ s.B = false) : PLx w0 w2 b D fs p s x R gs y s ko := by
  obtain ⟨rfl, h2⟩ := hT
  refine h.reopened hB1 (s := s) (t := s) ?_ hp hn hB2 ?_ hy hn2
  · rw [h2]; exact hs
  · rw [h2]; exact ht
theorem crashV_ok {D : DS} (h : D.Ok) (k t : Int) : (crashV D k t).Ok :=
  ⟨h.pos, h.max, fun q => by
    show Blk (crashS D.sure D.pend (clampN k D.pend.length) (clampN t 256) q)
    have h1 : ∀ q, Blk (flush D.sure (D.pend.take (clampN k D.pend.length)) q) := fun q => flush_blk h.sure (fun p hp => h.pend p (List.mem_of_mem_take hp)) q
    unfold crashS
    rcases e : D.pend.drop (clampN k D.pend.length) with _ | ⟨p, l⟩
    · exact h1 q
    · simp only
      have hm : p ∈ D.pend := List.mem_of_mem_drop (by rw [e]; simp)
      unfold updS
      split
      · exact tornB_blk (h.pend p hm) (h1 _) (clampN_le _ _)
      · exact h1 q, fun p hp => (by cases hp)⟩
/-- What holds between rounds. -/
def LvI (w wx : World) (n : Int) (b x : Nat) (k : Nat) (p y : Nat) (ko : List (Nat × Obj)) : Prop :=
  ∃ (D : DS) (R : RS) (fs gs : Nat → Prop) (s : SV), PLx w wx b D fs p s x R gs y s ko ∧ RM D R k ∧ D.size = n ∧ s.R.length ≤ 996
set_option maxHeartbeats 16000000 in
theorem lives29_shut (n : Int) (A : Option Addr) (ops : List PO) (c : Nat) (w : World) (h1 : 1 ≤ n) (h2 : n ≤ 200) (hO : PopsAt w A ops) (hok : ∀ o ∈ ops, o.Ok w) (hlen : ops.length ≤ 9223372036854775807) (hoe : openE (newD n) ≠ 0) :
    Calls Try.prog 7 #[.int .i64 n, .slice A ops.length c] w fun e w' => e = .returned (.bool true) ∧ Below w.heap.size w w' := by
  have hn200 : ¬ 200 < n := by omega
  have HN := Lib.hid (new_yes n w h1 (by omega))
  have HRN := Lib.hid (fun W => rnew_yes n W h1 (by omega))
  have HO := Lib.hid hO
  have HOK := Lib.hid hok
  have HM0 := Lib.hid (RM.new n)
  have HSZ0 : Hid ((newD n).size = n) := Lib.hid rfl
  clear hO hok
  have hb1 : (openE (newD n) == openE (newD n)) = true := by simp
  have HOE := Lib.hid hoe
  generalize newD n = D0 at *
  generalize newR n = R0 at *
  go_enter Try.func7, Try.ntmps7
  go_wp2_with (first
    | (go_at_call 21; ((with_reducible refine HN.out.mono ?_); rintro e w1 ⟨b, rfl, hD, hB⟩; have HD1 := Lib.hid hD; have HB1 := Lib.hid hB; clear hD hB))
    | (go_at_call 22; ((with_reducible refine (HRN.out _).mono ?_); rintro e w2 ⟨rfl, hD, hB⟩; have HR2 := Lib.hid hD; have HD2 := Lib.hid (HD1.out.below hB); have HB2 := Lib.hid (below_then HB1.out HB1.out.size hB); have HOP := Lib.hid (open_any b D0 _ w2 HD2.out); clear hD hB))
    | (go_at_call 14; ((with_reducible refine HOP.out.mono ?_); rintro e w3 ⟨v3, rfl, hB, _, hn⟩; obtain rfl := hn HOE.out; have HB3 := Lib.hid (below_then HB2.out HB2.out.size hB); have HOQ := Lib.hid (ropen_any _ D0 R0 _ w3 (HR2.out.below hB) HM0.out.rel HD2.out.ok); clear hB hn))
    | (go_at_call 23; ((with_reducible refine HOQ.out.mono ?_); rintro e w4 ⟨v4, rfl, hB, _, hn⟩; obtain rfl := hn HOE.out; have HB4 := Lib.hid (below_then HB3.out HB3.out.size hB); clear hB hn)))
  go_loop [11, 13] (fun s11 s13 => s11 = .pointer none ∧ s13 = .int .i64 0) (fun _ _ => 0)
  case atStart => exact ⟨rfl, rfl⟩
  case round =>
    obtain ⟨rfl, rfl⟩ := hrel
    by_cases hm0 : 0 < ops.length
    · go_wp2_with (first | (go_at_call 9; ((with_reducible refine (alive_any _).mono ?_); rintro e w1 ⟨rfl, hB1⟩; have HB5 := Lib.hid (below_then HB4.out HB4.out.size hB1); clear hB1)))
      go_ret
      exact ⟨rfl, HB5.out⟩
    · go_wp2_with (first | (go_at_call 9; ((with_reducible refine (alive_any _).mono ?_); rintro e w1 ⟨rfl, hB1⟩; have HB5 := Lib.hid (below_then HB4.out HB4.out.size hB1); clear hB1)))
      go_ret
      exact ⟨rfl, HB5.out⟩
end Go.Proofs.Ytlmdghafiadgjaa
