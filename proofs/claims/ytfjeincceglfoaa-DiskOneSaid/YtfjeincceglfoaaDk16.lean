/- The law DiskLasts. -/
import Derived.Test.YtfjeincceglfoaaDk15
namespace Go.Proofs.Ytfjeincceglfoaa
open Go.RowKit Go.Proofs.YtfjeincceglfoaaW.PrintWords

/-- What the loop of DiskLasts does with an op. -/
def lastS (at_ : Int) (D : DS) (o : OpV) : DS := if o.kind = 0 ∧ o.at_ ≠ at_ then (callV D o).2 else D
def lastV (at_ : Int) (D : DS) (ops : List OpV) : DS := (ops.take 40).foldl (lastS at_) D
/-- Nothing has been written at the place, and what is sure is as before. -/
structure Same (at_ : Int) (D0 D : DS) : Prop where
  size : D.size = D0.size
  sure : D.sure = D0.sure
  pend : ∀ p ∈ D.pend, p.1 ≠ at_
  plan : D.planned = false
  after : D.after = D0.after
theorem Same.step {at_ : Int} {D0 D : DS} (h : Same at_ D0 D) (o : OpV) : Same at_ D0 (lastS at_ D o) ∧ (lastS at_ D o).pend.length ≤ D.pend.length + 1 := by
  unfold lastS
  split
  · rename_i hc
    unfold callV
    rw [if_pos hc.1]
    unfold writeV
    rw [planV_np h.plan]
    split
    · exact ⟨h, by simp⟩
    · split
      · exact ⟨h, by simp⟩
      · simp only [ne_eq, not_true, if_false]
        refine ⟨⟨h.size, h.sure, fun p hp => ?_, h.plan, h.after⟩, by simp⟩
        rcases List.mem_append.1 hp with hp | hp
        · exact h.pend p hp
        · simp at hp
          subst hp
          exact hc.2
  · exact ⟨h, by simp⟩
theorem Same.fold {at_ : Int} {D0 : DS} : ∀ (l : List OpV) {D : DS}, Same at_ D0 D → Same at_ D0 (l.foldl (lastS at_) D) ∧ (l.foldl (lastS at_) D).pend.length ≤ D.pend.length + l.length
  | [], _, h => ⟨h, by simp⟩
  | o :: l, D, h => by
    have h1 := h.step o
    have h2 := Same.fold l h1.1
    simp only [List.foldl_cons, List.length_cons]
    exact ⟨h2.1, by omega⟩
theorem last_take (at_ : Int) (ops : List OpV) (D : DS) (j : Nat) (hj : j < ops.length) : (ops.take (j + 1)).foldl (lastS at_) D = lastS at_ ((ops.take j).foldl (lastS at_) D) ops[j] := by
  rw [List.take_succ_eq_append_getElem hj, List.foldl_append]
  rfl
theorem flush_other {at_ : Int} : ∀ (ps : List (Int × List Int)) (S : Int → List Int), (∀ p ∈ ps, p.1 ≠ at_) → flush S ps at_ = S at_
  | [], _, _ => rfl
  | p :: ps, S, h => by
    have h1 := flush_other ps (updS S p.1 p.2) (fun q hq => h q (by simp [hq]))
    have h2 := h p (by simp)
    rw [show flush S (p :: ps) = flush (updS S p.1 p.2) ps from rfl, h1]
    simp [updS, Ne.symm h2]
theorem nowP_other {at_ : Int} : ∀ (ps : List (Int × List Int)) (b : List Int), (∀ p ∈ ps, p.1 ≠ at_) → nowP ps at_ b = b
  | [], _, _ => rfl
  | p :: ps, b, h => by
    rw [nowP, if_neg (h p (by simp))]
    exact nowP_other ps b (fun q hq => h q (by simp [hq]))
theorem crash_other {at_ : Int} {S : Int → List Int} {ps : List (Int × List Int)} (n t : Nat) (h : ∀ p ∈ ps, p.1 ≠ at_) : crashS S ps n t at_ = S at_ := by
  have h1 : flush S (ps.take n) at_ = S at_ := flush_other _ _ (fun p hp => h p (List.mem_of_mem_take hp))
  unfold crashS
  rcases hd : ps.drop n with _ | ⟨p, l⟩
  · exact h1
  · show updS (flush S (ps.take n)) p.1 (tornB t p.2 (flush S (ps.take n) p.1)) at_ = S at_
    have hp : p ∈ ps := List.mem_of_mem_drop (i := n) (by rw [hd]; simp)
    rw [updS, if_neg (Ne.symm (h p hp)), h1]
theorem lasts_read {at_ : Int} {D0 D : DS} (h0 : D0.pend = []) (h : Same at_ D0 D) (k t : Int) : readR (crashV D k t) at_ = readR D0 at_ ∧ hasV (crashV D k t).size at_ = hasV D0.size at_ := by
  have hs : (crashV D k t).size = D0.size := h.size
  unfold readR
  rw [hs]
  refine ⟨?_, rfl⟩
  have e : readV (crashV D k t) at_ = readV D0 at_ := by
    unfold readV
    rw [h0]
    show crashS D.sure D.pend _ _ at_ = D0.sure at_
    rw [crash_other _ _ h.pend, h.sure]
  rw [e]
theorem callV_zero (D : DS) (o : OpV) (h : o.kind = 0) : callV D o = ((callV D o).1, (callV D o).2) := rfl
set_option maxRecDepth 100000 in
set_option maxHeartbeats 1000000 in
theorem lasts_none (n : Int) (v u : Value) (a k t : Int) (w : World) (h : n < 1 ∨ (1 ≤ n ∧ 65536 < n)) :
    Calls Try.prog 7 #[.int .i64 n, v, u, .int .i64 a, .int .i64 k, .int .i64 t] w fun e w' => e = .returned (.bool true) ∧ Below w.heap.size w w' := by
  have HP := Lib.hid (played_no n v w h)
  clear h
  go_enter Try.func7, Try.ntmps7
  go_wp2_with (first
    | (go_at_call 9; ((with_reducible refine HP.out.mono ?_); rintro e w1 ⟨rfl, rfl⟩))
    | (go_at_call 10; ((with_reducible refine (alive_any _).mono ?_); rintro e w1 ⟨rfl, hB⟩; have HB := Lib.hid hB; clear hB)))
  go_ret
  exact ⟨rfl, HB.out⟩
/-- Synced, where no plan is. -/
def syD (D : DS) : DS := { D with sure := flush D.sure D.pend, pend := [] }
theorem sync_syD (D : DS) (h : D.planned = false) : syncV D = (0, syD D) := by
  unfold syncV
  rw [planV_np h, if_neg (fun h => h rfl)]
  rfl
theorem orow_at {w : World} {base n c : Nat} {A : Option Addr} {xs : List Int} (h : ORow .u8 5 w base (.slice A n c) xs) : ∀ ad, A = some ad → base ≤ ad.block ∧ ad.block < w.heap.size := by
  rintro ad rfl
  rcases h.2 with ⟨h3, _⟩ | ⟨g', cap, cur, he, hg, hh, r⟩
  · cases h3
  · injection he with h1
    injection h1 with h1
    subst h1
    exact ⟨hg, blk_lt hh⟩
theorem ds_read {w0 w : World} {b : Nat} {D : DS} {L : List (Nat × DS)} (h : Ds w0 w ((b, D) :: L)) (i : Int) {xs : List Int} {q : Int} (hx : readR D i = xs) (hq : hasV D.size i = q) :
    Calls Try.prog 14 #[.pointer (some ⟨b, 0, none⟩), .int .i64 i] w fun e w' => ∃ A c, e = .returned (.tuple #[.slice A xs.length c, .int .i64 q]) ∧ ReadsInt w' .u8 A xs.length xs ∧ Below w.heap.size w w' ∧ (∀ ad, A = some ad → w.heap.size ≤ ad.block ∧ ad.block < w'.heap.size) := by
  subst hx; subst hq
  obtain ⟨f, h1⟩ := h.at_
  refine (read_any b D f i w h1).mono ?_
  rintro e w1 ⟨v, rfl, hO, hB⟩
  obtain ⟨A, c, rfl, _, hr⟩ := hO.reads
  exact ⟨A, c, rfl, hr, hB, orow_at hO⟩
/-- A disk, and blocks G that are not its own. -/
def PD (w0 w : World) (b : Nat) (D : DS) (G : Nat → Prop) : Prop := ∃ fs, DiskAt w b D fs ∧ (∀ i, fs i → w0.heap.size ≤ i) ∧ Below w0.heap.size w0 w ∧ ∀ i, G i → ¬ fs i ∧ i < w.heap.size
theorem Ds.pd {w0 w w' : World} {b : Nat} {D : DS} (h : Ds w0 w [(b, D)]) (hB : Below w.heap.size w w') (G : Nat → Prop) (hG : ∀ i, G i → w.heap.size ≤ i ∧ i < w'.heap.size) : PD w0 w' b D G := by
  obtain ⟨fs, ⟨f, g, h1, h2, h3, h4⟩, h5, h6⟩ := h
  exact ⟨f, h1.below hB, fun i hi => h5 i ((h4 i).2 (.inl hi)), below_then h6 h6.size hB, fun i hi => ⟨fun hf => by have := h1.lt i hf; have := (hG i hi).1; omega, (hG i hi).2⟩⟩
theorem PD.all {w0 w : World} {b : Nat} {D : DS} {G : Nat → Prop} (h : PD w0 w b D G) : Below w0.heap.size w0 w := by
  obtain ⟨_, _, _, h, _⟩ := h; exact h
theorem PD.below {w0 w w' : World} {b : Nat} {D : DS} {G : Nat → Prop} (h : PD w0 w b D G) (hB : Below w.heap.size w w') : PD w0 w' b D G := by
  obtain ⟨fs, h1, h2, h3, h4⟩ := h
  exact ⟨fs, h1.below hB, h2, below_then h3 h3.size hB, fun i hi => ⟨(h4 i hi).1, Nat.lt_of_lt_of_le (h4 i hi).2 hB.size⟩⟩
theorem PD.op {w0 w : World} {b : Nat} {D : DS} {G : Nat → Prop} (h : PD w0 w b D G) : ∃ fs, DiskAt w b D fs ∧ ∀ D' w', Eff w b fs D' w' → PD w0 w' b D' G ∧ ∀ i, G i → w'.heap[i]? = w.heap[i]? := by
  obtain ⟨fs, h1, h2, h3, h4⟩ := h
  refine ⟨fs, h1, ?_⟩
  rintro D' w' ⟨fs', e1, e2, e3⟩
  refine ⟨⟨fs', e1, fun i hi => (e3 i hi).elim (h2 i) (fun h => Nat.le_trans h3.size h), h3.trans (e2.below h2 h3.size), fun i hi => ⟨fun hf => ?_, Nat.lt_of_lt_of_le (h4 i hi).2 e2.size⟩⟩, fun i hi => e2.block i (h4 i hi).2 (h4 i hi).1⟩
  rcases e3 i hf with h9 | h9
  · exact (h4 i hi).1 h9
  · have := (h4 i hi).2
    omega
/-- The block of a row. -/
def rowB (A : Option Addr) (i : Nat) : Prop := ∃ ad, A = some ad ∧ i = ad.block
theorem reads_kept {w w' : World} {A : Option Addr} {n : Nat} {xs : List Int} (h : ReadsInt w .u8 A n xs) (hk : ∀ i, rowB A i → w'.heap[i]? = w.heap[i]?) : ReadsInt w' .u8 A n xs := by
  obtain ⟨h1, h2, h3⟩ := h
  refine ⟨h1, h2, fun h0 => ?_⟩
  obtain ⟨ad, rfl, h4⟩ := h3 h0
  refine ⟨ad, rfl, fun j hj => ?_⟩
  have hb : (ad.add j).block = ad.block := by unfold Addr.add; split <;> rfl
  rw [← h4 j hj]
  exact World.cell?_of_block (by rw [hb]; exact hk _ ⟨ad, rfl, rfl⟩)
section
variable {w0 w : World} {b : Nat} {D : DS} {G : Nat → Prop}
theorem pd_call (h : PD w0 w b D G) (o : OpV) (ho : o.Ok) (ha : D.after ≤ 9223372036854775807 ∧ D.pend.length ≤ 1000000000) {q : Int} {D' : DS} (hv : callV D o = (q, D')) :
    Calls Try.prog 15 #[.pointer (some ⟨b, 0, none⟩), .agg o.cells] w fun e w' => e = .returned (.int .i64 q) ∧ PD w0 w' b D' G ∧ ∀ i, G i → w'.heap[i]? = w.heap[i]? := by
  obtain ⟨f, h1, h2⟩ := h.op
  have h3 := call_any b D f o w h1 ho ha.1 ha.2
  rw [hv] at h3
  exact h3.mono fun e w1 h9 => ⟨h9.1, h2 _ _ h9.2⟩
theorem pd_crash (h : PD w0 w b D G) (k t : Int) {D' : DS} (hv : crashV D k t = D') :
    Calls Try.prog 11 #[.pointer (some ⟨b, 0, none⟩), .int .i64 k, .int .i64 t] w fun e w' => e = .returned (.int .i64 0) ∧ PD w0 w' b D' G ∧ ∀ i, G i → w'.heap[i]? = w.heap[i]? := by
  subst hv
  obtain ⟨f, h1, h2⟩ := h.op
  exact (crash_any b D f k t w h1).mono fun e w1 h9 => ⟨h9.1, h2 _ _ h9.2⟩
theorem pd_read (h : PD w0 w b D G) (i : Int) {xs : List Int} {q : Int} (hx : readR D i = xs) (hq : hasV D.size i = q) :
    Calls Try.prog 14 #[.pointer (some ⟨b, 0, none⟩), .int .i64 i] w fun e w' => ∃ A c, e = .returned (.tuple #[.slice A xs.length c, .int .i64 q]) ∧ ReadsInt w' .u8 A xs.length xs ∧ Below w.heap.size w w' ∧ (∀ ad, A = some ad → w.heap.size ≤ ad.block ∧ ad.block < w'.heap.size) := by
  subst hx; subst hq
  obtain ⟨f, h1, h2⟩ := h.op
  refine (read_any b D f i w h1).mono ?_
  rintro e w1 ⟨v, rfl, hO, hB⟩
  obtain ⟨A, c, rfl, _, hr⟩ := hO.reads
  exact ⟨A, c, rfl, hr, hB, orow_at hO⟩
theorem pd_pending (h : PD w0 w b D G) {n : Nat} (hn : D.pend.length = n) :
    Calls Try.prog 20 #[.pointer (some ⟨b, 0, none⟩)] w fun e w' => e = .returned (.int .i64 n) ∧ w = w' := by
  subst hn
  obtain ⟨f, h1, h2⟩ := h.op
  exact pending_any b D f w h1
end
set_option maxRecDepth 100000 in
set_option maxHeartbeats 4000000 in
theorem lasts_some (n : Int) (A : Option Addr) (c : Nat) (ops : List OpV) (A2 : Option Addr) (c2 : Nat) (more : List OpV) (a k t : Int) (w : World) (h : 1 ≤ n ∧ n ≤ 65536) (hO : OpsAt w A ops) (hok : ∀ o ∈ ops, o.Ok) (hlen : ops.length ≤ 9223372036854775807)
    (hO2 : OpsAt w A2 more) (hok2 : ∀ o ∈ more, o.Ok) (hlen2 : more.length ≤ 9223372036854775807) :
    Calls Try.prog 7 #[.int .i64 n, .slice A ops.length c, .slice A2 more.length c2, .int .i64 a, .int .i64 k, .int .i64 t] w fun e w' => e = .returned (.bool true) ∧ Below w.heap.size w w' := by
  have HP := Lib.hid (ds_played (Ds.nil w) n c h hO hok hlen)
  obtain ⟨p1, p2, p3, p4⟩ := play_np0 n ops
  have HS := Lib.hid (sync_syD (playV n ops) p1)
  have HAF : Hid ((playV n ops).after ≤ 9223372036854775807) := Lib.hid (by omega)
  have HO := Lib.hid hO2
  have HOK := Lib.hid hok2
  have HSM : Hid (Same a (syD (playV n ops)) (syD (playV n ops))) := Lib.hid ⟨rfl, rfl, fun p hp => (List.not_mem_nil hp).elim, p1, rfl⟩
  have HPE : Hid ((syD (playV n ops)).pend = []) := Lib.hid rfl
  have HAF2 : Hid ((syD (playV n ops)).after ≤ 9223372036854775807) := HAF
  generalize syD (playV n ops) = D0 at *
  generalize playV n ops = D at *
  clear h hO hok hO2 hok2 p1 p2 p3 p4
  obtain ⟨xs, hxs⟩ : ∃ xs, readR D0 a = xs := ⟨_, rfl⟩
  obtain ⟨q, hq⟩ : ∃ q, hasV D0.size a = q := ⟨_, rfl⟩
  have HR0 : Hid (readR D0 a = xs ∧ hasV D0.size a = q) := Lib.hid ⟨hxs, hq⟩
  have HRD : Hid (∀ D', Same a D0 D' → readR (crashV D' k t) a = xs ∧ hasV (crashV D' k t).size a = q) := Lib.hid (fun D' h => by rw [← hxs, ← hq]; exact lasts_read HPE.out h k t)
  clear hxs hq
  go_enter Try.func7, Try.ntmps7
  go_wp2_with (first
    | (go_at_call 9; ((with_reducible refine HP.out.mono ?_); rintro e1 w1 ⟨b, rfl, hd⟩; have HD1 := Lib.hid hd; clear hd))
    | (go_at_call 13; ((with_reducible refine (ds_sync HD1.out HAF.out HS.out).mono ?_); rintro e2 w2 ⟨rfl, hd⟩; have HD2 := Lib.hid hd; clear hd))
    | (go_at_call 14; ((with_reducible refine (ds_read HD2.out a HR0.out.1 HR0.out.2).mono ?_); rintro e3 w3 ⟨AA, ca, rfl, hr, hB, hd⟩; have HD3 := Lib.hid (HD2.out.pd hB (rowB AA) (fun i hi => by obtain ⟨ad, had, rfl⟩ := hi; exact hd ad had)); have HR3 := Lib.hid hr; clear hd hr hB)))
  go_loopw [16] (fun s16 wr => ∃ j : Nat, j ≤ more.length ∧ j ≤ 40 ∧ s16 = .int .i64 j ∧ Hid (ReadsInt wr .u8 AA xs.length xs) ∧ Hid (PD w wr b ((more.take j).foldl (lastS a) D0) (rowB AA))) (fun s16 _ => 40 - (intOf s16).toNat)
  case atStart => exact ⟨0, Nat.zero_le _, Nat.zero_le _, rfl, HR3, HD3⟩
  case round =>
    obtain ⟨j, hj, hj40, rfl, HRR, HD⟩ := hrel
    have hsm := Same.fold (at_ := a) (more.take j) HSM.out
    have hpl : ((more.take j).foldl (lastS a) D0).pend.length ≤ 1000000000 := by
      have h1 := hsm.2
      rw [HPE.out] at h1
      have h2 := List.length_take_le j more
      simp at h1
      omega
    have haf : ((more.take j).foldl (lastS a) D0).after ≤ 9223372036854775807 := by rw [hsm.1.after]; exact HAF2.out
    have HSMJ := Lib.hid hsm.1
    have HPL : Hid (((more.take j).foldl (lastS a) D0).after ≤ 9223372036854775807 ∧ ((more.take j).foldl (lastS a) D0).pend.length ≤ 1000000000) := Lib.hid ⟨haf, hpl⟩
    clear hsm hpl haf
    by_cases hlt : j < more.length ∧ j < 40
    · obtain ⟨hlt1, hlt2⟩ := hlt
      obtain ⟨ob, oo, rfl, hob, hr⟩ : ∃ b o, A2 = some ⟨b, o, none⟩ ∧ b < wr.heap.size ∧ ∀ j (h : j < more.length), wr.rangeAt b (o + j * 7) more[j].cells.toList := by
        rcases HO.out.below HD.out.all with h9 | h9
        · subst h9; exact absurd hlt1 (Nat.not_lt_zero _)
        · exact h9
      have hr1 := hr j hlt1
      have hok1 := Lib.hid (HOK.out more[j] (List.getElem_mem hlt1))
      have HPS := Lib.hid (last_take a more D0 j hlt1)
      have HRG := Lib.hid hr1
      have ck : wr.cell? ⟨ob, oo + j * 7, none⟩ = some (.int .i64 more[j].kind) := hr1 0 _ rfl
      have ca1 : wr.cell? ⟨ob, oo + j * 7 + 1, none⟩ = some (.int .i64 more[j].at_) := hr1 1 _ rfl
      generalize more[j] = o at *
      have hj0 : (0 : Int) ≤ (j : Int) := Int.natCast_nonneg _
      have hj1 : (j : Int) < (more.length : Int) := by omega
      have hj2 : (j : Int) < 40 := by omega
      clear hr hr1 hob
      by_cases hk : o.kind = 0
      · by_cases ha : o.at_ = a
        · have b1 : (o.kind == 0) = true := beq_iff_eq.mpr hk
          have b2 : (o.at_ != a) = false := by rw [ha]; simp
          go_wp2
          go_round
          case measure => simp [intOf]; omega
          case rel => exact ⟨j + 1, by omega, by omega, by simp, HRR, by rw [HPS.out, lastS, if_neg (fun h => h.2 ha)]; exact HD⟩
        · have b1 : (o.kind == 0) = true := beq_iff_eq.mpr hk
          have b2 : (o.at_ != a) = true := bne_iff_ne.mpr ha
          have HCALL := Lib.hid (pd_call HD.out o hok1.out HPL.out rfl)
          go_wp2_with (first
            | ((with_reducible refine at_load_mid (x := .tmp 68) (d := some 69) ob (oo + j * 7) o.cells.toList _ HRG.out Try.underlying36 (by kernel_rfl) rfl ?_ ?_); rfl)
            | (go_at_call 15; ((with_reducible refine HCALL.out.mono ?_); rintro e4 w4 ⟨rfl, hE, hK⟩; have HE := Lib.hid hE; have HRR4 := Lib.hid (reads_kept HRR.out hK); clear hE hK)))
          go_round
          case measure => simp [intOf]; omega
          case rel => exact ⟨j + 1, by omega, by omega, by simp, HRR4, by rw [HPS.out, lastS, if_pos ⟨hk, ha⟩]; exact HE⟩
      · have b1 : (o.kind == 0) = false := beq_eq_false_iff_ne.mpr hk
        go_wp2
        go_round
        case measure => simp [intOf]; omega
        case rel => exact ⟨j + 1, by omega, by omega, by simp, HRR, by rw [HPS.out, lastS, if_neg (fun h => hk h.1)]; exact HD⟩
    · obtain ⟨hx1, hq1⟩ := HRD.out _ HSMJ.out
      have HX1 := Lib.hid hx1
      have HQ1 := Lib.hid hq1
      have HPN : Hid (∀ D' : DS, (crashV D' k t).pend.length = 0) := Lib.hid (fun _ => rfl)
      clear hx1 hq1
      generalize (more.take j).foldl (lastS a) D0 = DJ at *
      have hcase : (¬ (j : Int) < (more.length : Int)) ∨ ((j : Int) < (more.length : Int) ∧ ¬ (j : Int) < 40) := by omega
      rcases hcase with hj1 | ⟨hj1, hj2⟩
      all_goals
        go_wp2_with (first
          | (go_at_call 11; ((with_reducible refine (pd_crash HD.out k t rfl).mono ?_); rintro e5 w5 ⟨rfl, hE, hK⟩; have HD5 := Lib.hid hE; have HR5 := Lib.hid (reads_kept HRR.out hK); clear hE hK))
          | (go_at_call 14; ((with_reducible refine (pd_read HD5.out a HX1.out HQ1.out).mono ?_); rintro e6 w6 ⟨A6, c6, rfl, hr, hB, hd⟩; have HD6 := Lib.hid (HD5.out.below hB); have HR6 := Lib.hid (HR5.out.below hB); have HS6 := Lib.hid hr; clear hr hB hd))
          | (go_at_call 10; ((with_reducible refine (alive_any _).mono ?_); rintro e7 w7 ⟨rfl, hB⟩; have HD7 := Lib.hid (HD6.out.below hB); have cv1 := string_of_reads (P := Try.prog) (A := AA) (c := ca) (n := xs.length) Try.underlying31 Try.underlying5 Try.underlying9 (HR6.out.below hB); have cv2 := string_of_reads (P := Try.prog) (A := A6) (c := c6) (n := xs.length) Try.underlying31 Try.underlying5 Try.underlying9 (HS6.out.below hB); clear hB))
          | (go_at_call 20; ((with_reducible refine (pd_pending HD7.out (HPN.out _)).mono ?_); rintro e8 w8 ⟨rfl, rfl⟩)))
        go_ret
        exact ⟨rfl, HD7.out.all⟩
theorem lasts_law (n : Int) (A : Option Addr) (ops : List OpV) (c : Nat) (A2 : Option Addr) (more : List OpV) (c2 : Nat) (a k t : Int) (w : World) (_ : (Lit.int .i64 n).wf = true) (hO : OpsAt w A ops) (hok : ∀ o ∈ ops, o.Ok) (hlen : ops.length ≤ 9223372036854775807)
    (hO2 : OpsAt w A2 more) (hok2 : ∀ o ∈ more, o.Ok) (hlen2 : more.length ≤ 9223372036854775807) (_ : (Lit.int .i64 a).wf = true) (_ : (Lit.int .i64 k).wf = true) (_ : (Lit.int .i64 t).wf = true) :
    Calls Try.prog 7 #[.int .i64 n, .slice A ops.length c, .slice A2 more.length c2, .int .i64 a, .int .i64 k, .int .i64 t] w fun e w' => e = .returned (.bool true) ∧ Below w.heap.size w w' := by
  by_cases h : 1 ≤ n ∧ n ≤ 65536
  · exact lasts_some n A c ops A2 c2 more a k t w h hO hok hlen hO2 hok2 hlen2
  · exact lasts_none n _ _ a k t w (by omega)
end Go.Proofs.Ytfjeincceglfoaa
