/- Several disks; the law DiskTwice. -/
import Derived.Test.YtfjeincceglfoaaDk13
namespace Go.Proofs.Ytfjeincceglfoaa
open Go.RowKit Go.Proofs.YtfjeincceglfoaaW.PrintWords

/-- Disks that share nothing; fs: all their blocks. -/
def Disks (w : World) : List (Nat × DS) → (Nat → Prop) → Prop
  | [], fs => ∀ i, ¬ fs i
  | p :: l, fs => ∃ f g, DiskAt w p.1 p.2 f ∧ Disks w l g ∧ (∀ i, f i → ¬ g i) ∧ ∀ i, fs i ↔ f i ∨ g i
theorem Disks.lt {w : World} : ∀ {L : List (Nat × DS)} {fs : Nat → Prop}, Disks w L fs → ∀ i, fs i → i < w.heap.size
  | [], _, h, i, hi => (h i hi).elim
  | _ :: _, _, ⟨_, _, h1, h2, _, h4⟩, i, hi => ((h4 i).1 hi).elim (h1.lt i) (h2.lt i)
theorem Disks.keep {w w' : World} : ∀ {L : List (Nat × DS)} {fs : Nat → Prop}, Disks w L fs → (∀ i, fs i → w'.heap[i]? = w.heap[i]?) → Disks w' L fs
  | [], _, h, _ => h
  | _ :: _, _, ⟨f, g, h1, h2, h3, h4⟩, hk => ⟨f, g, h1.keep (fun i hi => hk i ((h4 i).2 (.inl hi))), h2.keep (fun i hi => hk i ((h4 i).2 (.inr hi))), h3, h4⟩
def Ds (w0 w : World) (L : List (Nat × DS)) : Prop := ∃ fs, Disks w L fs ∧ (∀ i, fs i → w0.heap.size ≤ i) ∧ Below w0.heap.size w0 w
theorem Ds.nil (w : World) : Ds w w [] := ⟨fun _ => False, fun _ h => h, fun _ h => h.elim, Below.refl _ _⟩
theorem Ds.all {w0 w : World} {L : List (Nat × DS)} (h : Ds w0 w L) : Below w0.heap.size w0 w := by
  obtain ⟨_, _, _, h⟩ := h; exact h
theorem Ds.below {w0 w w' : World} {L : List (Nat × DS)} (h : Ds w0 w L) (hB : Below w.heap.size w w') : Ds w0 w' L := by
  obtain ⟨fs, h1, h2, h3⟩ := h
  exact ⟨fs, h1.keep (fun i hi => hB.block i (h1.lt i hi)), h2, below_then h3 h3.size hB⟩
theorem Ds.swap {w0 w : World} {p q : Nat × DS} {L : List (Nat × DS)} (h : Ds w0 w (p :: q :: L)) : Ds w0 w (q :: p :: L) := by
  obtain ⟨fs, ⟨f, g, h1, ⟨f2, g2, k1, k2, k3, k4⟩, h3, h4⟩, h5, h6⟩ := h
  refine ⟨fs, ⟨f2, fun i => f i ∨ g2 i, k1, ⟨f, g2, h1, k2, fun i hi hg => h3 i hi ((k4 i).2 (.inr hg)), fun i => Iff.rfl⟩, fun i hi hg => ?_, fun i => ?_⟩, h5, h6⟩
  · rcases hg with hg | hg
    · exact h3 i hg ((k4 i).2 (.inl hi))
    · exact k3 i hi hg
  · rw [h4 i, k4 i]
    constructor
    · rintro (h | h | h)
      · exact .inr (.inl h)
      · exact .inl h
      · exact .inr (.inr h)
    · rintro (h | h | h)
      · exact .inr (.inl h)
      · exact .inl h
      · exact .inr (.inr h)
theorem Ds.tail {w0 w : World} {p : Nat × DS} {L : List (Nat × DS)} (h : Ds w0 w (p :: L)) : Ds w0 w L := by
  obtain ⟨fs, ⟨f, g, h1, h2, h3, h4⟩, h5, h6⟩ := h
  exact ⟨g, h2, fun i hi => h5 i ((h4 i).2 (.inr hi)), h6⟩
theorem Ds.at_ {w0 w : World} {p : Nat × DS} {L : List (Nat × DS)} (h : Ds w0 w (p :: L)) : ∃ f, DiskAt w p.1 p.2 f := by
  obtain ⟨fs, ⟨f, g, h1, h2, h3, h4⟩, h5, h6⟩ := h
  exact ⟨f, h1⟩
theorem Ds.add {w0 w w' : World} {b : Nat} {D : DS} {L : List (Nat × DS)} (h : Ds w0 w L) (k : LD w w' b D) : Ds w0 w' ((b, D) :: L) := by
  obtain ⟨fs, h1, h2, h3⟩ := h
  obtain ⟨f, k1, k2, k3⟩ := k
  refine ⟨fun i => f i ∨ fs i, ⟨f, fs, k1, h1.keep (fun i hi => k3.block i (h1.lt i hi)), fun i hi hf => ?_, fun i => Iff.rfl⟩, fun i hi => ?_, below_then h3 h3.size k3⟩
  · have := k2 i hi
    have := h1.lt i hf
    omega
  · rcases hi with hi | hi
    · exact Nat.le_trans h3.size (k2 i hi)
    · exact h2 i hi
theorem Ds.op {w0 w : World} {b : Nat} {D : DS} {L : List (Nat × DS)} (h : Ds w0 w ((b, D) :: L)) : ∃ f, DiskAt w b D f ∧ ∀ D' w', Eff w b f D' w' → Ds w0 w' ((b, D') :: L) := by
  obtain ⟨fs, ⟨f, g, h1, h2, h3, h4⟩, h5, h6⟩ := h
  refine ⟨f, h1, ?_⟩
  rintro D' w' ⟨f', e1, e2, e3⟩
  have hlt : ∀ i, fs i → i < w.heap.size := fun i hi => ((h4 i).1 hi).elim (h1.lt i) (h2.lt i)
  refine ⟨fun i => f' i ∨ g i, ⟨f', g, e1, h2.keep (fun i hi => e2.block i (h2.lt i hi) (fun hf => h3 i hf hi)), fun i hi hg => ?_, fun i => Iff.rfl⟩, fun i hi => ?_, h6.trans (e2.below (fun i hi => h5 i ((h4 i).2 (.inl hi))) h6.size)⟩
  · rcases e3 i hi with h9 | h9
    · exact h3 i h9 hg
    · have := h2.lt i hg
      omega
  · rcases hi with hi | hi
    · rcases e3 i hi with h9 | h9
      · exact h5 i ((h4 i).2 (.inl h9))
      · exact Nat.le_trans h6.size h9
    · exact h5 i ((h4 i).2 (.inr hi))
section
variable {w0 w : World} {b : Nat} {D : DS} {L : List (Nat × DS)}
theorem ds_crash (h : Ds w0 w ((b, D) :: L)) (k t : Int) {D' : DS} (hv : crashV D k t = D') :
    Calls Try.prog 11 #[.pointer (some ⟨b, 0, none⟩), .int .i64 k, .int .i64 t] w fun e w' => e = .returned (.int .i64 0) ∧ Ds w0 w' ((b, D') :: L) := by
  subst hv
  obtain ⟨f, h1, h2⟩ := h.op
  exact (crash_any b D f k t w h1).mono fun e w1 h9 => ⟨h9.1, h2 _ _ h9.2⟩
theorem ds_sync (h : Ds w0 w ((b, D) :: L)) (ha : D.after ≤ 9223372036854775807) {q : Int} {D' : DS} (hv : syncV D = (q, D')) :
    Calls Try.prog 13 #[.pointer (some ⟨b, 0, none⟩)] w fun e w' => e = .returned (.int .i64 q) ∧ Ds w0 w' ((b, D') :: L) := by
  obtain ⟨f, h1, h2⟩ := h.op
  have h3 := sync_any b D f w h1 ha
  rw [hv] at h3
  exact h3.mono fun e w1 h9 => ⟨h9.1, h2 _ _ h9.2⟩
theorem ds_call (h : Ds w0 w ((b, D) :: L)) (o : OpV) (ho : o.Ok) (ha : D.after ≤ 9223372036854775807 ∧ D.pend.length ≤ 1000000000) {q : Int} {D' : DS} (hv : callV D o = (q, D')) :
    Calls Try.prog 15 #[.pointer (some ⟨b, 0, none⟩), .agg o.cells] w fun e w' => e = .returned (.int .i64 q) ∧ Ds w0 w' ((b, D') :: L) := by
  obtain ⟨f, h1, h2⟩ := h.op
  have h3 := call_any b D f o w h1 ho ha.1 ha.2
  rw [hv] at h3
  exact h3.mono fun e w1 h9 => ⟨h9.1, h2 _ _ h9.2⟩
theorem ds_fail (h : Ds w0 w ((b, D) :: L)) (n e0 : Int) {q : Int} {D' : DS} (hv : failV D n e0 = (q, D')) :
    Calls Try.prog 23 #[.pointer (some ⟨b, 0, none⟩), .int .i64 n, .int .i64 e0] w fun e w' => e = .returned (.int .i64 q) ∧ Ds w0 w' ((b, D') :: L) := by
  obtain ⟨f, h1, h2⟩ := h.op
  have h3 := fail_any b D f n e0 w h1
  rw [hv] at h3
  exact h3.mono fun e w1 h9 => ⟨h9.1, h2 _ _ (Eff.of h9.2.1 h9.2.2)⟩
theorem ds_same {c : Nat} {C : DS} (h : Ds w0 w ((b, D) :: (c, C) :: L)) (hA : Alike D C) :
    Calls Try.prog 12 #[.pointer (some ⟨b, 0, none⟩), .pointer (some ⟨c, 0, none⟩)] w fun e w' => e = .returned (.bool true) ∧ Ds w0 w' ((b, D) :: (c, C) :: L) := by
  obtain ⟨f, h1⟩ := h.at_
  obtain ⟨g, h2⟩ := h.swap.at_
  exact (same_yes b c D C f g w h1 h2 hA).mono fun e w1 h9 => ⟨h9.1, h.below h9.2⟩
theorem ds_played {A : Option Addr} {ops : List OpV} (h : Ds w0 w L) (n : Int) (c : Nat) (h1 : 1 ≤ n ∧ n ≤ 65536) (hO : OpsAt w0 A ops) (hok : ∀ o ∈ ops, o.Ok) (hlen : ops.length ≤ 9223372036854775807) :
    Calls Try.prog 9 #[.int .i64 n, .slice A ops.length c] w fun e w' => ∃ b, e = .returned (.pointer (some ⟨b, 0, none⟩)) ∧ Ds w0 w' ((b, playV n ops) :: L) := by
  refine (played_yes n A c ops w h1.1 h1.2 (hO.below h.all) hok hlen).mono ?_
  rintro e w1 ⟨b, rfl, hL⟩
  exact ⟨b, rfl, h.add hL⟩
theorem ds_alive (h : Ds w0 w L) : Calls Try.prog 10 #[] w fun e w' => e = .returned (.bool true) ∧ Ds w0 w' L :=
  (alive_any w).mono fun e w1 h9 => ⟨h9.1, h.below h9.2⟩
end
theorem Alike.refl (D : DS) : Alike D D := fun _ => ⟨rfl, rfl⟩
theorem clampN_zero (k : Int) : clampN k 0 = 0 := by unfold clampN; omega
theorem crashS_nil (S : Int → List Int) (t : Nat) : crashS S [] 0 t = S := by
  simp [crashS, flush]
theorem crash_idem (D : DS) (k t k2 t2 : Int) : crashV (crashV D k t) k2 t2 = crashV D k t := by
  unfold crashV
  simp only [List.length_nil, clampN_zero, crashS_nil]
theorem sync_crash (D : DS) (k t : Int) : syncV (crashV D k t) = (0, crashV D k t) := by
  unfold syncV
  rw [planV_np rfl]
  rw [if_neg (fun h => h rfl)]
  rfl
theorem play_np0 (n : Int) (ops : List OpV) : (playV n ops).planned = false ∧ (playV n ops).after = 0 ∧ (playV n ops).pend.length ≤ 60 ∧ (playV n ops).size = n := by
  obtain ⟨h1, h2, h3, h4⟩ := play_np (ops.take 60) (newD n) rfl
  refine ⟨h1, h2, ?_, h4⟩
  have : (newD n).pend.length = 0 := rfl
  rw [List.length_take] at h3
  unfold playV
  omega
set_option maxRecDepth 100000 in
set_option maxHeartbeats 1000000 in
theorem twice_none (n : Int) (v : Value) (k t m l : Int) (w : World) (h : n < 1 ∨ (1 ≤ n ∧ 65536 < n)) :
    Calls Try.prog 3 #[.int .i64 n, v, .int .i64 k, .int .i64 t, .int .i64 m, .int .i64 l] w fun e w' => e = .returned (.bool true) ∧ Below w.heap.size w w' := by
  have HP := Lib.hid (played_no n v w h)
  clear h
  go_enter Try.func3, Try.ntmps3
  go_wp2_with (first
    | (go_at_call 9; ((with_reducible refine HP.out.mono ?_); rintro e w1 ⟨rfl, rfl⟩))
    | (go_at_call 10; ((with_reducible refine (alive_any _).mono ?_); rintro e w1 ⟨rfl, hB⟩; have HB := Lib.hid hB; clear hB)))
  go_ret
  exact ⟨rfl, HB.out⟩
set_option maxRecDepth 100000 in
set_option maxHeartbeats 2000000 in
theorem twice_some (n : Int) (A : Option Addr) (c : Nat) (ops : List OpV) (k t m l : Int) (w : World) (h : 1 ≤ n ∧ n ≤ 65536) (hO : OpsAt w A ops) (hok : ∀ o ∈ ops, o.Ok) (hlen : ops.length ≤ 9223372036854775807) :
    Calls Try.prog 3 #[.int .i64 n, .slice A ops.length c, .int .i64 k, .int .i64 t, .int .i64 m, .int .i64 l] w fun e w' => e = .returned (.bool true) ∧ Below w.heap.size w w' := by
  have HP1 := Lib.hid (ds_played (Ds.nil w) n c h hO hok hlen)
  have HP := Lib.hid (fun W L (hd : Ds w W L) => ds_played hd n c h hO hok hlen)
  clear h hO hok
  have HC1 : Hid (crashV (playV n ops) k t = crashV (playV n ops) k t) := Lib.hid rfl
  have HC2 := Lib.hid (crash_idem (playV n ops) k t m l)
  have HC3 := Lib.hid (crash_idem (playV n ops) k t l m)
  have HS := Lib.hid (sync_crash (playV n ops) k t)
  have HAF : Hid ((crashV (playV n ops) k t).after ≤ 9223372036854775807) := Lib.hid (by rw [show (crashV (playV n ops) k t).after = (playV n ops).after from rfl, (play_np0 n ops).2.1]; omega)
  generalize playV n ops = D at *
  go_enter Try.func3, Try.ntmps3
  go_wp2_with (first
    | (go_at_call 9; ((with_reducible refine HP1.out.mono ?_); rintro e w1 ⟨a, rfl, hd⟩; have HD1 := Lib.hid hd; clear hd))
    | (go_at_call 9; ((with_reducible refine (HP.out _ _ HD1.out).mono ?_); rintro e w2 ⟨b, rfl, hd⟩; have HD2 := Lib.hid hd.swap; clear hd))
    | (go_at_call 11; ((with_reducible refine (ds_crash HD2.out k t rfl).mono ?_); rintro e w3 ⟨rfl, hd⟩; have HD3 := Lib.hid hd.swap; clear hd))
    | (go_at_call 11; ((with_reducible refine (ds_crash HD3.out k t rfl).mono ?_); rintro e w4 ⟨rfl, hd⟩; have HD4 := Lib.hid hd; clear hd))
    | (go_at_call 11; ((with_reducible refine (ds_crash HD4.out m l HC2.out).mono ?_); rintro e w5 ⟨rfl, hd⟩; have HD5 := Lib.hid hd.swap; clear hd))
    | (go_at_call 12; ((with_reducible refine (ds_same HD5.out (Alike.refl _)).mono ?_); rintro e w6 ⟨rfl, hd⟩; have HD6 := Lib.hid hd.swap; clear hd))
    | (go_at_call 13; ((with_reducible refine (ds_sync HD6.out HAF.out HS.out).mono ?_); rintro e w7 ⟨rfl, hd⟩; have HD7 := Lib.hid hd; clear hd))
    | (go_at_call 11; ((with_reducible refine (ds_crash HD7.out l m HC3.out).mono ?_); rintro e w8 ⟨rfl, hd⟩; have HD8 := Lib.hid hd.swap; clear hd))
    | (go_at_call 10; ((with_reducible refine (ds_alive HD8.out).mono ?_); rintro e w9 ⟨rfl, hd⟩; have HD9 := Lib.hid hd; clear hd))
    | (go_at_call 12; ((with_reducible refine (ds_same HD9.out (Alike.refl _)).mono ?_); rintro e w10 ⟨rfl, hd⟩; have HD10 := Lib.hid hd; clear hd)))
  go_ret
  exact ⟨rfl, HD10.out.all⟩
end Go.Proofs.Ytfjeincceglfoaa
