/- The law DiskRefuses. -/
import Derived.Test.YtfjeincceglfoaaDk14
namespace Go.Proofs.Ytfjeincceglfoaa
open Go.RowKit Go.Proofs.YtfjeincceglfoaaW.PrintWords

theorem Ds.swap2 {w0 w : World} {p q r : Nat × DS} {L : List (Nat × DS)} (h : Ds w0 w (p :: q :: r :: L)) : Ds w0 w (p :: r :: q :: L) := by
  obtain ⟨fs, ⟨f, g, h1, h2, h3, h4⟩, h5, h6⟩ := h
  have hg : Ds w0 w (r :: q :: L) := Ds.swap ⟨g, h2, fun i hi => h5 i ((h4 i).2 (.inr hi)), h6⟩
  obtain ⟨f2, g2, k1, ⟨f3, g3, k2, k3, k4, k5⟩, k6, k7⟩ := h2
  refine ⟨fs, ⟨f, g, h1, ⟨f3, fun i => f2 i ∨ g3 i, k2, ⟨f2, g3, k1, k3, fun i hi hj => k6 i hi ((k5 i).2 (.inr hj)), fun i => Iff.rfl⟩, fun i hi hj => ?_, fun i => ?_⟩, h3, h4⟩, h5, h6⟩
  · rcases hj with hj | hj
    · exact k6 i hj ((k5 i).2 (.inl hi))
    · exact k4 i hi hj
  · rw [k7 i, k5 i]
    constructor
    · rintro (h | h | h)
      · exact .inr (.inl h)
      · exact .inl h
      · exact .inr (.inr h)
    · rintro (h | h | h)
      · exact .inr (.inl h)
      · exact .inl h
      · exact .inr (.inr h)
theorem Ds.rot {w0 w : World} {p q r : Nat × DS} {L : List (Nat × DS)} (h : Ds w0 w (p :: q :: r :: L)) : Ds w0 w (r :: p :: q :: L) := h.swap2.swap
theorem ds_call7 {w0 w : World} {b : Nat} {D : DS} {L : List (Nat × DS)} (h : Ds w0 w ((b, D) :: L)) (k a n t f : Int) (bad : Bool) (e : Int) (ho : 0 ≤ f ∧ f ≤ 255) (ha : D.after ≤ 9223372036854775807 ∧ D.pend.length ≤ 1000000000) {q : Int} {D' : DS} (hv : callV D ⟨k, a, n, t, f, bad, e⟩ = (q, D')) :
    Calls Try.prog 15 #[.pointer (some ⟨b, 0, none⟩), .agg #[.int .i64 k, .int .i64 a, .int .i64 n, .int .i64 t, .int .u8 f, .bool bad, .int .i64 e]] w fun e w' => e = .returned (.int .i64 q) ∧ Ds w0 w' ((b, D') :: L) :=
  ds_call h ⟨k, a, n, t, f, bad, e⟩ ho ha hv
theorem ds_pending {w0 w : World} {b : Nat} {D : DS} {L : List (Nat × DS)} (h : Ds w0 w ((b, D) :: L)) {n : Nat} (hn : D.pend.length = n) :
    Calls Try.prog 20 #[.pointer (some ⟨b, 0, none⟩)] w fun e w' => e = .returned (.int .i64 n) ∧ w = w' := by
  subst hn
  obtain ⟨f, h1⟩ := h.at_
  exact pending_any b D f w h1
def fD (D : DS) (e : Int) : DS := { D with planned := true, after := 0, err := e }
def gD (D : DS) (e : Int) : DS := { D with planned := false, after := 0, err := e }
theorem fail_fD (D : DS) (e : Int) (he : e = 160 ∨ e = 7) : failV D 0 e = (0, fD D e) := by
  unfold failV; rw [if_pos he]; rfl
theorem plan_fD (D : DS) (e : Int) : planV (fD D e) = (e, gD D e) := rfl
theorem plan_gD (D : DS) (e : Int) : planV (gD D e) = (0, gD D e) := rfl
theorem refuse_bad (D : DS) (o : OpV) (hk : o.kind = 0 ∨ o.kind = 1) (hp : D.planned = false) (e : Int) (h : (callV D o).1 ≠ 0) : callV D o = ((callV D o).1, D) ∧ callV (fD D e) o = ((callV D o).1, fD D e) := by
  unfold callV at h ⊢
  rcases hk with hk | hk
  · simp only [if_pos hk] at h ⊢
    unfold writeV at h ⊢
    rw [planV_np hp] at h ⊢
    by_cases h1 : hasV D.size o.at_ ≠ 0
    · rw [if_pos h1]
      exact ⟨rfl, if_pos h1⟩
    · rw [if_neg h1] at h ⊢
      by_cases h2 : (bytesV o.fill o.bad).length ≠ 256
      · rw [if_pos h2]
        exact ⟨rfl, (if_neg h1).trans (if_pos h2)⟩
      · rw [if_neg h2, if_neg (fun h => h rfl)] at h
        exact absurd rfl h
  · have h0 : ¬ o.kind = 0 := by omega
    simp only [if_neg h0, if_pos hk] at h ⊢
    unfold syncV at h
    rw [planV_np hp, if_neg (fun h => h rfl)] at h
    exact absurd rfl h
theorem refuse_ok (D : DS) (o : OpV) (hk : o.kind = 0 ∨ o.kind = 1) (hp : D.planned = false) (e : Int) (he : e ≠ 0) (h : (callV D o).1 = 0) :
    callV (fD D e) o = (e, gD D e) ∧ callV (gD D e) o = (0, gD (callV D o).2 e) := by
  unfold callV at h ⊢
  rcases hk with hk | hk
  · simp only [if_pos hk] at h ⊢
    by_cases h1 : hasV D.size o.at_ ≠ 0
    · unfold writeV at h
      rw [if_pos h1] at h
      exact absurd h h1
    · by_cases h2 : (bytesV o.fill o.bad).length ≠ 256
      · unfold writeV at h
        rw [if_neg h1, if_pos h2] at h
        exact absurd (show (1 : Int) = 0 from h) (by omega)
      · have hw : writeV D o.at_ (bytesV o.fill o.bad) = (0, { D with pend := D.pend ++ [(o.at_, bytesV o.fill o.bad)] }) := by
          unfold writeV
          rw [planV_np hp, if_neg h1, if_neg h2, if_neg (fun h => h rfl)]
        rw [hw]
        unfold writeV
        rw [plan_fD, plan_gD]
        exact ⟨((if_neg h1).trans (if_neg h2)).trans (if_pos he), ((if_neg h1).trans (if_neg h2)).trans (if_neg (fun h => h rfl))⟩
  · have h0 : ¬ o.kind = 0 := by omega
    simp only [if_neg h0, if_pos hk] at h ⊢
    have hw : syncV D = (0, { D with sure := flush D.sure D.pend, pend := [] }) := by
      unfold syncV
      rw [planV_np hp, if_neg (fun h => h rfl)]
    rw [hw]
    unfold syncV
    rw [plan_fD, plan_gD]
    exact ⟨if_pos he, if_neg (fun h => h rfl)⟩
theorem alike_f (D : DS) (e : Int) : Alike (fD D e) D := fun _ => ⟨rfl, rfl⟩
theorem alike_g (D : DS) (e : Int) : Alike (gD D e) D := fun _ => ⟨rfl, rfl⟩
theorem alike_g' (D : DS) (e : Int) : Alike D (gD D e) := fun _ => ⟨rfl, rfl⟩
theorem callV_len (D : DS) (o : OpV) (hk : o.kind = 0 ∨ o.kind = 1) (hp : D.planned = false) : (callV D o).2.pend.length ≤ D.pend.length + 1 := (callV_np D o hp (by omega)).2.2.1
set_option maxRecDepth 100000 in
set_option maxHeartbeats 2000000 in
theorem refuses_none (nn : Int) (v : Value) (k a n t f : Int) (bad : Bool) (e : Int) (sp : Bool) (w : World) (h : nn < 1 ∨ (1 ≤ nn ∧ 65536 < nn)) :
    Calls Try.prog 8 #[.int .i64 nn, v, .agg #[.int .i64 k, .int .i64 a, .int .i64 n, .int .i64 t, .int .u8 f, .bool bad, .int .i64 e], .bool sp] w fun e w' => e = .returned (.bool true) ∧ Below w.heap.size w w' := by
  have HP := Lib.hid (fun W => played_no nn v W h)
  clear h
  go_enter Try.func8, Try.ntmps8
  go_wp2_with (first
    | (go_at_call 9; ((with_reducible refine (HP.out _).mono ?_); rintro e w1 ⟨rfl, rfl⟩))
    | (go_at_call 10; ((with_reducible refine (alive_any _).mono ?_); rintro e w1 ⟨rfl, hB⟩; have HB := Lib.hid hB; clear hB)))
  go_ret
  exact ⟨rfl, below_step (below_first _) HB.out⟩
set_option maxRecDepth 100000 in
set_option maxHeartbeats 4000000 in
theorem refuses_else (nn : Int) (A : Option Addr) (c : Nat) (ops : List OpV) (k a n t f : Int) (bad : Bool) (e : Int) (sp : Bool) (w : World) (h : 1 ≤ nn ∧ nn ≤ 65536) (hO : OpsAt w A ops) (hok : ∀ o ∈ ops, o.Ok) (hlen : ops.length ≤ 9223372036854775807) (hk0 : k ≠ 0) (hk1 : k ≠ 1) :
    Calls Try.prog 8 #[.int .i64 nn, .slice A ops.length c, .agg #[.int .i64 k, .int .i64 a, .int .i64 n, .int .i64 t, .int .u8 f, .bool bad, .int .i64 e], .bool sp] w fun e w' => e = .returned (.bool true) ∧ Below w.heap.size w w' := by
  have hb0 := heap_alloc_last w (.cells #[.int .i64 k, .int .i64 a, .int .i64 n, .int .i64 t, .int .u8 f, .bool bad, .int .i64 e] 36)
  have hO1 := hO.below (below_first (w := w) (.cells #[.int .i64 k, .int .i64 a, .int .i64 n, .int .i64 t, .int .u8 f, .bool bad, .int .i64 e] 36))
  have HP1 := Lib.hid (ds_played (Ds.nil _) nn c h hO1 hok hlen)
  have HP := Lib.hid (fun W L (hd : Ds _ W L) => ds_played hd nn c h hO1 hok hlen)
  have HB1 := Lib.hid (below_first (w := w) (.cells #[.int .i64 k, .int .i64 a, .int .i64 n, .int .i64 t, .int .u8 f, .bool bad, .int .i64 e] 36))
  have HBX := Lib.hid hb0
  have b0 : (k != 0) = true := bne_iff_ne.mpr hk0
  have b1 : (k != 1) = true := bne_iff_ne.mpr hk1
  clear h hO hok hb0 hO1 hk0 hk1
  generalize playV nn ops = D at *
  go_enter Try.func8, Try.ntmps8
  go_wp2_with (first
    | (go_at_call 9; ((with_reducible refine HP1.out.mono ?_); rintro e1 w1 ⟨ba, rfl, hd⟩; have HD1 := Lib.hid hd; clear hd))
    | (go_at_call 9; ((with_reducible refine (HP.out _ _ HD1.out).mono ?_); rintro e2 w2 ⟨bb, rfl, hd⟩; have HD2 := Lib.hid hd; clear hd))
    | (go_at_call 9; ((with_reducible refine (HP.out _ _ HD2.out).mono ?_); rintro e3 w3 ⟨bc, rfl, hd⟩; have HD3 := Lib.hid hd; have cz : w3.cell? ⟨w.heap.size, 0, none⟩ = some (.int .i64 k) := pw_cell_below hd.all ((blk_cell HBX.out 0).trans rfl); clear hd))
    | (go_at_call 10; ((with_reducible refine (alive_any _).mono ?_); rintro e w4 ⟨rfl, hB⟩; have HB := Lib.hid hB; clear hB)))
  go_ret
  exact ⟨rfl, below_step (below_step HB1.out HD3.out.all) HB.out⟩
set_option maxRecDepth 100000 in
set_option maxHeartbeats 8000000 in
theorem refuses_bad (nn : Int) (A : Option Addr) (c : Nat) (ops : List OpV) (k a n t f : Int) (bad : Bool) (e : Int) (sp : Bool) (w : World) (h : 1 ≤ nn ∧ nn ≤ 65536) (hO : OpsAt w A ops) (hok : ∀ o ∈ ops, o.Ok) (hlen : ops.length ≤ 9223372036854775807) (hk : k = 0 ∨ k = 1) (ho : 0 ≤ f ∧ f ≤ 255) (hq : (callV (playV nn ops) ⟨k, a, n, t, f, bad, e⟩).1 ≠ 0) :
    Calls Try.prog 8 #[.int .i64 nn, .slice A ops.length c, .agg #[.int .i64 k, .int .i64 a, .int .i64 n, .int .i64 t, .int .u8 f, .bool bad, .int .i64 e], .bool sp] w fun e w' => e = .returned (.bool true) ∧ Below w.heap.size w w' := by
  have hb0 := heap_alloc_last w (.cells #[.int .i64 k, .int .i64 a, .int .i64 n, .int .i64 t, .int .u8 f, .bool bad, .int .i64 e] 36)
  have hO1 := hO.below (below_first (w := w) (.cells #[.int .i64 k, .int .i64 a, .int .i64 n, .int .i64 t, .int .u8 f, .bool bad, .int .i64 e] 36))
  have HP1 := Lib.hid (ds_played (Ds.nil _) nn c h hO1 hok hlen)
  have HP := Lib.hid (fun W L (hd : Ds _ W L) => ds_played hd nn c h hO1 hok hlen)
  have HB1 := Lib.hid (below_first (w := w) (.cells #[.int .i64 k, .int .i64 a, .int .i64 n, .int .i64 t, .int .u8 f, .bool bad, .int .i64 e] 36))
  have HLX := Lib.hid (fun W (hB : Below (w.alloc (.cells #[.int .i64 k, .int .i64 a, .int .i64 n, .int .i64 t, .int .u8 f, .bool bad, .int .i64 e] 36)).heap.size (w.alloc (.cells #[.int .i64 k, .int .i64 a, .int .i64 n, .int .i64 t, .int .u8 f, .bool bad, .int .i64 e] 36)) W) => blk_below hb0 hB)
  have HBX := Lib.hid hb0
  obtain ⟨p1, p2, p3, p4⟩ := play_np0 nn ops
  have V0 := Lib.hid (fun er => refuse_bad (playV nn ops) ⟨k, a, n, t, f, bad, e⟩ hk p1 er hq)
  have q0 : Hid ((playV nn ops).after ≤ 9223372036854775807 ∧ (playV nn ops).pend.length ≤ 1000000000) := Lib.hid ⟨by omega, by omega⟩
  have HHO := Lib.hid ho
  have hkb : (k != 0) = false ∨ ((k != 0) = true ∧ (k != 1) = false) := by
    rcases hk with rfl | rfl
    · exact .inl rfl
    · exact .inr ⟨rfl, rfl⟩
  clear hk
  have hq' : ((callV (playV nn ops) ⟨k, a, n, t, f, bad, e⟩).1 != 0) = true := bne_iff_ne.mpr hq
  generalize (callV (playV nn ops) ⟨k, a, n, t, f, bad, e⟩).1 = q at *
  generalize playV nn ops = D at *
  clear h hO hok hb0 hO1 p1 p2 p3 p4 hq ho
  have q1 : Hid (∀ er, (fD D er).after ≤ 9223372036854775807 ∧ (fD D er).pend.length ≤ 1000000000) := Lib.hid (fun er => ⟨show (0 : Int) ≤ _ by omega, q0.out.2⟩)
  rcases sp with _ | _
  all_goals
    rcases hkb with bk | ⟨bk, bk1⟩
    all_goals
      go_enter Try.func8, Try.ntmps8
      go_wp2_with (first
        | (go_at_call 9; ((with_reducible refine HP1.out.mono ?_); rintro e1 w1 ⟨ba, rfl, hd⟩; have HD1 := Lib.hid hd; clear hd))
        | (go_at_call 9; ((with_reducible refine (HP.out _ _ HD1.out).mono ?_); rintro e2 w2 ⟨bb, rfl, hd⟩; have HD2 := Lib.hid hd; clear hd))
        | (go_at_call 9; ((with_reducible refine (HP.out _ _ HD2.out).mono ?_); rintro e3 w3 ⟨bc, rfl, hd⟩; have HD3 := Lib.hid hd.rot; have cz : w3.cell? ⟨w.heap.size, 0, none⟩ = some (.int .i64 k) := pw_cell_below hd.all ((blk_cell HBX.out 0).trans rfl); clear hd))
        | ((with_reducible refine at_load_row (x := .tmp 6) (d := some 48) w.heap.size #[.int .i64 k, .int .i64 a, .int .i64 n, .int .i64 t, .int .u8 f, .bool bad, .int .i64 e] (0, 0) _ (HLX.out _ HD3.out.all) Try.underlying36 (by kernel_rfl) rfl ?_ ?_); rfl)
        | (go_at_call 15; ((with_reducible refine (ds_call7 HD3.out _ a n t f bad e HHO.out q0.out (V0.out 0).1).mono ?_); rintro e4 w4 ⟨rfl, hd⟩; have HD4 := Lib.hid hd; clear hd))
        | (go_at_call 12; ((with_reducible refine (ds_same HD4.out (Alike.refl _)).mono ?_); rintro e5 w5 ⟨rfl, hd⟩; have HD5 := Lib.hid hd.rot; clear hd))
        | (go_at_call 23; ((with_reducible refine (ds_fail HD5.out 0 _ (fail_fD D _ (by first | exact .inl rfl | exact .inr rfl))).mono ?_); rintro e6 w6 ⟨rfl, hd⟩; have HD6 := Lib.hid hd; clear hd))
        | ((with_reducible refine at_load_row (x := .tmp 6) (d := some 65) w.heap.size #[.int .i64 k, .int .i64 a, .int .i64 n, .int .i64 t, .int .u8 f, .bool bad, .int .i64 e] (0, 0) _ (HLX.out _ HD6.out.all) Try.underlying36 (by kernel_rfl) rfl ?_ ?_); rfl)
        | (go_at_call 15; ((with_reducible refine (ds_call7 HD6.out _ a n t f bad e HHO.out (q1.out _) (V0.out _).2).mono ?_); rintro e7 w7 ⟨rfl, hd⟩; have HD7 := Lib.hid hd.swap2; clear hd))
        | (go_at_call 10; ((with_reducible refine (ds_alive HD7.out).mono ?_); rintro e8 w8 ⟨rfl, hd⟩; have HD8 := Lib.hid hd; clear hd))
        | (go_at_call 12; ((with_reducible refine (ds_same HD8.out (alike_f _ _)).mono ?_); rintro e9 w9 ⟨rfl, hd⟩; have HD9 := Lib.hid hd; clear hd)))
      go_ret
      exact ⟨rfl, below_step HB1.out HD9.out.all⟩
set_option maxRecDepth 100000 in
set_option maxHeartbeats 8000000 in
theorem refuses_ok (nn : Int) (A : Option Addr) (c : Nat) (ops : List OpV) (k a n t f : Int) (bad : Bool) (e : Int) (sp : Bool) (w : World) (h : 1 ≤ nn ∧ nn ≤ 65536) (hO : OpsAt w A ops) (hok : ∀ o ∈ ops, o.Ok) (hlen : ops.length ≤ 9223372036854775807) (hk : k = 0 ∨ k = 1) (ho : 0 ≤ f ∧ f ≤ 255) (hq : (callV (playV nn ops) ⟨k, a, n, t, f, bad, e⟩).1 = 0) :
    Calls Try.prog 8 #[.int .i64 nn, .slice A ops.length c, .agg #[.int .i64 k, .int .i64 a, .int .i64 n, .int .i64 t, .int .u8 f, .bool bad, .int .i64 e], .bool sp] w fun e w' => e = .returned (.bool true) ∧ Below w.heap.size w w' := by
  have hb0 := heap_alloc_last w (.cells #[.int .i64 k, .int .i64 a, .int .i64 n, .int .i64 t, .int .u8 f, .bool bad, .int .i64 e] 36)
  have hO1 := hO.below (below_first (w := w) (.cells #[.int .i64 k, .int .i64 a, .int .i64 n, .int .i64 t, .int .u8 f, .bool bad, .int .i64 e] 36))
  have HP1 := Lib.hid (ds_played (Ds.nil _) nn c h hO1 hok hlen)
  have HP := Lib.hid (fun W L (hd : Ds _ W L) => ds_played hd nn c h hO1 hok hlen)
  have HB1 := Lib.hid (below_first (w := w) (.cells #[.int .i64 k, .int .i64 a, .int .i64 n, .int .i64 t, .int .u8 f, .bool bad, .int .i64 e] 36))
  have HLX := Lib.hid (fun W (hB : Below (w.alloc (.cells #[.int .i64 k, .int .i64 a, .int .i64 n, .int .i64 t, .int .u8 f, .bool bad, .int .i64 e] 36)).heap.size (w.alloc (.cells #[.int .i64 k, .int .i64 a, .int .i64 n, .int .i64 t, .int .u8 f, .bool bad, .int .i64 e] 36)) W) => blk_below hb0 hB)
  have HBX := Lib.hid hb0
  obtain ⟨p1, p2, p3, p4⟩ := play_np0 nn ops
  have V0 : Hid (callV (playV nn ops) ⟨k, a, n, t, f, bad, e⟩ = (0, (callV (playV nn ops) ⟨k, a, n, t, f, bad, e⟩).2)) := Lib.hid (by rw [← hq])
  have V1 := Lib.hid (fun er (he : er ≠ 0) => refuse_ok (playV nn ops) ⟨k, a, n, t, f, bad, e⟩ hk p1 er he hq)
  have q0 : Hid ((playV nn ops).after ≤ 9223372036854775807 ∧ (playV nn ops).pend.length ≤ 1000000000) := Lib.hid ⟨by omega, by omega⟩
  have HHO := Lib.hid ho
  have hkb : (k != 0) = false ∨ ((k != 0) = true ∧ (k != 1) = false) := by
    rcases hk with rfl | rfl
    · exact .inl rfl
    · exact .inr ⟨rfl, rfl⟩
  clear hk
  clear hq
  generalize (callV (playV nn ops) ⟨k, a, n, t, f, bad, e⟩).2 = B at *
  generalize playV nn ops = D at *
  clear h hO hok hb0 hO1 p1 p2 p3 p4 ho
  have q2 : Hid (∀ er, (gD D er).after ≤ 9223372036854775807 ∧ (gD D er).pend.length ≤ 1000000000) := Lib.hid (fun er => ⟨show (0 : Int) ≤ _ by omega, q0.out.2⟩)
  have q1 : Hid (∀ er, (fD D er).after ≤ 9223372036854775807 ∧ (fD D er).pend.length ≤ 1000000000) := Lib.hid (fun er => ⟨show (0 : Int) ≤ _ by omega, q0.out.2⟩)
  rcases sp with _ | _
  all_goals
    rcases hkb with bk | ⟨bk, bk1⟩
    all_goals
      go_enter Try.func8, Try.ntmps8
      go_wp2_with (first
        | (go_at_call 9; ((with_reducible refine HP1.out.mono ?_); rintro e1 w1 ⟨ba, rfl, hd⟩; have HD1 := Lib.hid hd; clear hd))
        | (go_at_call 9; ((with_reducible refine (HP.out _ _ HD1.out).mono ?_); rintro e2 w2 ⟨bb, rfl, hd⟩; have HD2 := Lib.hid hd; clear hd))
        | (go_at_call 9; ((with_reducible refine (HP.out _ _ HD2.out).mono ?_); rintro e3 w3 ⟨bc, rfl, hd⟩; have HD3 := Lib.hid hd.rot; have cz : w3.cell? ⟨w.heap.size, 0, none⟩ = some (.int .i64 k) := pw_cell_below hd.all ((blk_cell HBX.out 0).trans rfl); clear hd))
        | ((with_reducible refine at_load_row (x := .tmp 6) (d := some 48) w.heap.size #[.int .i64 k, .int .i64 a, .int .i64 n, .int .i64 t, .int .u8 f, .bool bad, .int .i64 e] (0, 0) _ (HLX.out _ HD3.out.all) Try.underlying36 (by kernel_rfl) rfl ?_ ?_); rfl)
        | (go_at_call 15; ((with_reducible refine (ds_call7 HD3.out _ a n t f bad e HHO.out q0.out V0.out).mono ?_); rintro e4 w4 ⟨rfl, hd⟩; have HD4 := Lib.hid hd.rot; clear hd))
        | (go_at_call 23; ((with_reducible refine (ds_fail HD4.out 0 _ (fail_fD D _ (by first | exact .inl rfl | exact .inr rfl))).mono ?_); rintro e6 w6 ⟨rfl, hd⟩; have HD5 := Lib.hid hd; clear hd))
        | ((with_reducible refine at_load_row (x := .tmp 6) (d := some 65) w.heap.size #[.int .i64 k, .int .i64 a, .int .i64 n, .int .i64 t, .int .u8 f, .bool bad, .int .i64 e] (0, 0) _ (HLX.out _ HD5.out.all) Try.underlying36 (by kernel_rfl) rfl ?_ ?_); rfl)
        | (go_at_call 15; ((with_reducible refine (ds_call7 HD5.out _ a n t f bad e HHO.out (q1.out _) (V1.out _ (by decide)).1).mono ?_); rintro e7 w7 ⟨rfl, hd⟩; have HD6 := Lib.hid hd.swap2; clear hd))
        | (go_at_call 12; ((with_reducible refine (ds_same HD6.out (alike_g _ _)).mono ?_); rintro e9 w8 ⟨rfl, hd⟩; have HD7 := Lib.hid hd; clear hd))
        | (go_at_call 20; ((with_reducible refine (ds_pending HD7.out (n := D.pend.length) rfl).mono ?_); rintro e9 w9 ⟨rfl, rfl⟩))
        | (go_at_call 20; ((with_reducible refine (ds_pending HD7.out.swap (n := D.pend.length) rfl).mono ?_); rintro e9 w9 ⟨rfl, rfl⟩))
        | ((with_reducible refine at_load_row (x := .tmp 6) (d := some 97) w.heap.size #[.int .i64 k, .int .i64 a, .int .i64 n, .int .i64 t, .int .u8 f, .bool bad, .int .i64 e] (0, 0) _ (HLX.out _ HD7.out.all) Try.underlying36 (by kernel_rfl) rfl ?_ ?_); rfl)
        | (go_at_call 15; ((with_reducible refine (ds_call7 HD7.out _ a n t f bad e HHO.out (q2.out _) (V1.out _ (by decide)).2).mono ?_); rintro e7 w9 ⟨rfl, hd⟩; have HD8 := Lib.hid hd.rot; clear hd))
        | (go_at_call 10; ((with_reducible refine (ds_alive HD8.out).mono ?_); rintro e8 w10 ⟨rfl, hd⟩; have HD9 := Lib.hid hd; clear hd))
        | (go_at_call 12; ((with_reducible refine (ds_same HD9.out (alike_g' _ _)).mono ?_); rintro e9 w11 ⟨rfl, hd⟩; have HD10 := Lib.hid hd; clear hd))
        | (go_at_call 20; ((with_reducible refine (ds_pending HD10.out (n := B.pend.length) rfl).mono ?_); rintro e9 w12 ⟨rfl, rfl⟩))
        | (go_at_call 20; ((with_reducible refine (ds_pending HD10.out.swap (n := B.pend.length) rfl).mono ?_); rintro e9 w12 ⟨rfl, rfl⟩)))
      go_ret
      exact ⟨rfl, below_step HB1.out HD10.out.all⟩
theorem refuses_law (nn : Int) (A : Option Addr) (ops : List OpV) (c : Nat) (o : OpV) (sp : Bool) (w : World) (_ : (Lit.int .i64 nn).wf = true) (hO : OpsAt w A ops) (hok : ∀ o ∈ ops, o.Ok) (hlen : ops.length ≤ 9223372036854775807) (ho : o.Ok) :
    Calls Try.prog 8 #[.int .i64 nn, .slice A ops.length c, .agg o.cells, .bool sp] w fun e w' => e = .returned (.bool true) ∧ Below w.heap.size w w' := by
  obtain ⟨k, a, n, t, f, bad, e⟩ := o
  by_cases h : 1 ≤ nn ∧ nn ≤ 65536
  · by_cases hk : k = 0 ∨ k = 1
    · by_cases hq : (callV (playV nn ops) ⟨k, a, n, t, f, bad, e⟩).1 = 0
      · exact refuses_ok nn A c ops k a n t f bad e sp w h hO hok hlen hk ho hq
      · exact refuses_bad nn A c ops k a n t f bad e sp w h hO hok hlen hk ho hq
    · exact refuses_else nn A c ops k a n t f bad e sp w h hO hok hlen (fun h => hk (.inl h)) (fun h => hk (.inr h))
  · exact refuses_none nn _ k a n t f bad e sp w (by omega)
end Go.Proofs.Ytfjeincceglfoaa
