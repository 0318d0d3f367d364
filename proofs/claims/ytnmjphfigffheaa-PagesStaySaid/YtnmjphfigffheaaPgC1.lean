/- pages, plain: a Commit, done or not, and a crash behind it. -/
import Derived.Test.YtnmjphfigffheaaPgC0
namespace Go.Proofs.Ytnmjphfigffheaa
set_option linter.unusedVariables false
set_option linter.unusedSimpArgs false
open Go.RowKit Go.Proofs.YtnmjphfigffheaaW.PrintWords Go.Proofs.YtnmjphfigffheaaW.PrintLast

theorem stoV_form (D : DS) (s : Int) {b : List Int} (h0 : 0 ≤ s) (h1 : s * 4 + 3 < D.size) (hb : b.length = 1024) : ∀ k, k ≤ 4 → ∃ j, j ≤ k ∧ (stoV D s b k).2.pend = D.pend ++ slotW s b j ∧ (stoV D s b k).2.sure = D.sure ∧ (stoV D s b k).2.size = D.size ∧ ((stoV D s b k).1 = 0 → j = k)
  | 0, _ => ⟨0, Nat.le_refl _, by simp [stoV, slotW], rfl, rfl, fun _ => rfl⟩
  | k + 1, hk => by
    obtain ⟨j, hj, h2, h3, h4, h5⟩ := stoV_form D s h0 h1 hb k (by omega)
    unfold stoV
    by_cases he : (stoV D s b k).1 ≠ 0
    · rw [if_pos he]
      exact ⟨j, by omega, h2, h3, h4, fun e => absurd e he⟩
    · rw [if_neg he]
      have he0 : (stoV D s b k).1 = 0 := by simpa using he
      obtain rfl := h5 he0
      generalize (stoV D s b j).2 = D' at *
      obtain ⟨p1, p2, p3⟩ := planV_pend D'
      unfold writeV
      rw [hasV_in (by omega) (by rw [h4]; omega), if_neg (by simp), if_neg (by rw [seg_len (by omega)]; omega)]
      by_cases hp : (planV D').1 ≠ 0
      · rw [if_pos hp]
        exact ⟨j, by omega, by rw [p1, h2], by rw [p3, h3], by rw [p2, h4], fun e => absurd e hp⟩
      · rw [if_neg hp]
        refine ⟨j + 1, Nat.le_refl _, ?_, by show (planV D').2.sure = _; rw [p3, h3], by show (planV D').2.size = _; rw [p2, h4], fun _ => rfl⟩
        show D'.pend ++ _ = _
        rw [h2, slotW, List.append_assoc]
theorem syncV_ok {D : DS} (h : (syncV D).1 = 0) : (syncV D).2.sure = flush D.sure D.pend ∧ (syncV D).2.pend = [] ∧ (syncV D).2.size = D.size := by
  obtain ⟨p1, p2, p3⟩ := planV_pend D
  unfold syncV at h ⊢
  by_cases hp : (planV D).1 ≠ 0
  · rw [if_pos hp] at h; exact absurd h hp
  · rw [if_neg hp]
    exact ⟨rfl, rfl, p2⟩
theorem syncV_err {D : DS} (h : (syncV D).1 ≠ 0) : (syncV D).2.sure = D.sure ∧ (syncV D).2.pend = D.pend ∧ (syncV D).2.size = D.size := by
  obtain ⟨p1, p2, p3⟩ := planV_pend D
  unfold syncV at h ⊢
  by_cases hp : (planV D).1 ≠ 0
  · rw [if_pos hp]
    exact ⟨p3, p1, p2⟩
  · rw [if_neg hp] at h
    exact absurd rfl h
theorem tail_pack {k n t : Int} {c : List Int} (h : c.length ≤ 996) : seg (packL k n t c) 1016 1024 = be 8 t := (pack_segs h).2.2.2.2.2.2.1
theorem tail_zero {b : List Int} (h : ∀ c ∈ b, c = 0) (hl : b.length = 1024) : ge (seg b 1016 1024) = 0 := by
  have e : b = List.replicate 1024 0 := by rw [← hl]; exact all_zero h
  have e2 : seg (List.replicate 1024 (0 : Int)) 1016 1024 = be 8 0 := by decide +kernel
  rw [e, e2]
  decide
/-- The page of the root that counts: its turn at its end. -/
theorem PInv.tail_cur {D : DS} {T : Int} {R : List Int} (h : PInv D T R) : ge (seg (pgS D.sure (T % 2)) 1016 1024) = T := by
  have h0 := h.t0
  by_cases hz : T = 0
  · subst hz
    exact tail_zero (h.zero rfl).2 (pgS_len h.ok.sure _)
  · rw [h.cur (by omega), tail_pack h.rl]
    exact ge_be 8 T h0 (by have := h.t1; omega)
/-- The new root is there. -/
theorem PInv.next {D D' : DS} {T : Int} {R xs : List Int} (h : PInv D T R) (hl : xs.length ≤ 996) (hx : Bytes xs) (hT : T < 200) (ho : D'.Ok) (hs : D'.size = D.size) (hp : D'.pend = [])
    (h1 : pgS D'.sure ((T + 1) % 2) = packL 1 ((T + 1) % 2) (T + 1) xs) (h2 : pgS D'.sure (T % 2) = pgS D.sure (T % 2)) : PInv D' (T + 1) xs := by
  have h0 := h.t0
  refine ⟨ho, by rw [hs]; exact h.n0, by omega, by omega, hl, hx, fun p hm => (by rw [hp] at hm; cases hm), fun e => (by omega), fun _ => h1, ?_⟩
  rw [show (T + 1 + 1) % 2 = T % 2 by omega, h2, h.tail_cur]
  omega
/-- The new root is there in part, or not at all. -/
theorem PInv.stays {D D' : DS} {T : Int} {R xs : List Int} (h : PInv D T R) (hl : xs.length ≤ 996) (hT : T < 200) (ho : D'.Ok) (hs : D'.size = D.size) (hp : D'.pend = [])
    (h2 : pgS D'.sure (T % 2) = pgS D.sure (T % 2)) {t : Nat} (ht : t < 256) (h3 : D'.sure ((T + 1) % 2 * 4 + 3) = tornB t (seg (packL 1 ((T + 1) % 2) (T + 1) xs) 768 1024) (D.sure ((T + 1) % 2 * 4 + 3))) : PInv D' T R := by
  have h0 := h.t0
  refine ⟨ho, by rw [hs]; exact h.n0, h.t0, h.t1, h.rl, h.rb, fun p hm => (by rw [hp] at hm; cases hm), ?_, fun h9 => (by rw [h2]; exact h.cur h9), ?_⟩
  · intro hz
    subst hz
    rw [show (0 : Int) % 2 = 0 from rfl] at h2
    rw [h2]; exact h.zero rfl
  · have hbl := packL_len (k := 1) (n := (T + 1) % 2) (t := T + 1) hl
    have htl := tail_pack (k := 1) (n := (T + 1) % 2) (t := T + 1) hl
    generalize packL 1 ((T + 1) % 2) (T + 1) xs = b at *
    have ho2 := h.old
    have hr := pgS_tail h.ok.sure ((T + 1) % 2)
    have hlen : ((D.sure ((T + 1) % 2 * 4 + 3)).drop 248).length = 8 := by rw [List.length_drop, (h.ok.sure _).1]
    have hby : Bytes ((D.sure ((T + 1) % 2 * 4 + 3)).drop 248) := (h.ok.sure _).2.drop _
    have hbe := be_ge hby
    rw [hlen] at hbe
    have hg0 := (ge_range hby).1
    rw [hr] at ho2
    generalize hv : ge ((D.sure ((T + 1) % 2 * 4 + 3)).drop 248) = v at *
    have hB : (seg b 768 1024).drop 248 = be 8 (T + 1) := by
      rw [← htl]
      unfold seg
      rw [List.drop_take, List.drop_drop]
    have e := torn_tail (seg_len (by omega)) (h.ok.sure _).1 ⟨by omega, by omega⟩ ⟨hg0, by omega⟩ hB hbe.symm t ht
    rw [pgS_tail ho.sure, h3, e, ge_be 8 v hg0 (by omega)]
    exact ho2
/-- What a Commit leaves. -/
structure Comm (D : DS) (T : Int) (R xs : List Int) (r : CR) : Prop where
  size : r.D.size = D.size
  ok : r.D.Ok
  done : r.e = 0 → r.T = T + 1 ∧ r.R = xs ∧ r.B = false ∧ PInv r.D (T + 1) xs ∧ r.D.pend = [] ∧ ∀ q, 8 ≤ q → r.D.sure q = flush D.sure D.pend q
  not : r.e ≠ 0 → r.T = T ∧ r.R = R ∧ r.B = true ∧ ((r.D.sure = D.sure ∧ r.D.pend = D.pend) ∨ ∃ j, j ≤ 4 ∧ r.D.sure = flush D.sure D.pend ∧ r.D.pend = slotW ((T + 1) % 2) (packL 1 ((T + 1) % 2) (T + 1) xs) j)
theorem slotW_blk {s : Int} {b : List Int} (hb : b.length = 1024) (hx : Bytes b) : ∀ k, k ≤ 4 → ∀ p ∈ slotW s b k, Blk p.2
  | 0, _, p, h => by cases h
  | k + 1, hk, p, h => by
    rw [slotW] at h
    rcases List.mem_append.1 h with h | h
    · exact slotW_blk hb hx k (by omega) p h
    · rw [List.mem_singleton.1 h]
      exact ⟨by rw [seg_len (by omega)]; omega, seg_bytes hx _ _⟩
theorem PInv.commit {D : DS} {T : Int} {R xs : List Int} (h : PInv D T R) (hl : xs.length ≤ 996) (hx : Bytes xs) (hT : T < 200) : Comm D T R xs (scommitV D T R false xs) := by
  have h0 := h.t0
  have hn : nxT T = T + 1 := by unfold nxT; omega
  have hpk : packV 1 ((T + 1) % 2) (T + 1) xs = (packL 1 ((T + 1) % 2) (T + 1) xs, 0) := by
    unfold packV
    rw [if_neg (by omega), if_neg (by omega)]
  have hbl := packL_len (k := 1) (n := (T + 1) % 2) (t := T + 1) hl
  have hby := packL_bytes (k := 1) (n := (T + 1) % 2) (t := T + 1) (by decide) hx
  unfold scommitV
  rw [if_neg (by decide), hn, hpk]
  simp only
  rw [if_neg (by decide)]
  have hfl : ∀ q, q < 8 → flush D.sure D.pend q = D.sure q := fun q hq => flush_none (fun p hp e => by have := h.pd p hp; omega)
  by_cases e1 : (syncV D).1 ≠ 0
  · rw [if_pos e1]
    obtain ⟨g1, g2, g3⟩ := syncV_err e1
    exact ⟨g3, ⟨by show 0 < (syncV D).2.size; rw [g3]; exact h.ok.pos, by show (syncV D).2.size ≤ _; rw [g3]; exact h.ok.max, by show ∀ k, Blk ((syncV D).2.sure k); rw [g1]; exact h.ok.sure, by show ∀ p ∈ (syncV D).2.pend, _; rw [g2]; exact h.ok.pend⟩, fun e => absurd e e1, fun _ => ⟨rfl, rfl, rfl, .inl ⟨g1, g2⟩⟩⟩
  rw [if_neg e1]
  obtain ⟨g1, g2, g3⟩ := syncV_ok (D := D) (by simpa using e1)
  generalize (syncV D).2 = D1 at *
  have hb4 : (T + 1) % 2 * 4 + 3 < D1.size := by rw [g3]; have := h.n0; omega
  obtain ⟨j, hj, s1, s2, s3, s4⟩ := stoV_form D1 ((T + 1) % 2) (by omega) hb4 hbl 4 (by omega)
  have hsto : stoV D1 ((T + 1) % 2) (packL 1 ((T + 1) % 2) (T + 1) xs) 4 = storeV D1 ((T + 1) % 2) (packL 1 ((T + 1) % 2) (T + 1) xs) := rfl
  rw [hsto] at s1 s2 s3 s4
  rw [g2, List.nil_append] at s1
  rw [g1] at s2
  rw [g3] at s3
  have hso : ∀ k, Blk (flush D.sure D.pend k) := fun k => flush_blk h.ok.sure h.ok.pend k
  generalize storeV D1 ((T + 1) % 2) (packL 1 ((T + 1) % 2) (T + 1) xs) = sto at *
  have hok2 : sto.2.Ok := ⟨by rw [s3]; exact h.ok.pos, by rw [s3]; exact h.ok.max, by rw [s2]; exact hso, by rw [s1]; exact slotW_blk hbl hby j hj⟩
  by_cases e2 : sto.1 ≠ 0
  · rw [if_pos e2]
    exact ⟨s3, hok2, fun e => absurd e e2, fun _ => ⟨rfl, rfl, rfl, .inr ⟨j, hj, s2, s1⟩⟩⟩
  rw [if_neg e2]
  obtain rfl := s4 (by simpa using e2)
  by_cases e3 : (syncV sto.2).1 ≠ 0
  · rw [if_pos e3]
    obtain ⟨k1, k2, k3⟩ := syncV_err e3
    refine ⟨k3.trans s3, ⟨by show 0 < (syncV sto.2).2.size; rw [k3]; exact hok2.pos, by show (syncV sto.2).2.size ≤ _; rw [k3]; exact hok2.max, by show ∀ k, Blk ((syncV sto.2).2.sure k); rw [k1]; exact hok2.sure, by show ∀ p ∈ (syncV sto.2).2.pend, _; rw [k2]; exact hok2.pend⟩, fun e => absurd e e3, fun _ => ⟨rfl, rfl, rfl, .inr ⟨4, by omega, k1.trans s2, k2.trans s1⟩⟩⟩
  rw [if_neg e3]
  obtain ⟨k1, k2, k3⟩ := syncV_ok (D := sto.2) (by simpa using e3)
  rw [s2, s1] at k1
  have hok3 : (syncV sto.2).2.Ok := ⟨by rw [k3]; exact hok2.pos, by rw [k3]; exact hok2.max, by rw [k1]; exact fun k => flush_blk hso (slotW_blk hbl hby 4 (by omega)) k, fun p hp => (by rw [k2] at hp; cases hp)⟩
  have hoth : ∀ q, (q < (T + 1) % 2 * 4 ∨ (T + 1) % 2 * 4 + 4 ≤ q) → (syncV sto.2).2.sure q = flush D.sure D.pend q := fun q hq => by rw [k1]; exact slot_other _ _ _ 4 (by omega)
  refine ⟨k3.trans s3, hok3, fun _ => ⟨rfl, rfl, rfl, ?_, k2, fun q hq => hoth q (by omega)⟩, fun e => absurd rfl e⟩
  refine h.next hl hx hT hok3 (k3.trans s3) k2 ?_ ?_
  · show pgS (syncV sto.2).2.sure _ = _
    rw [k1]; exact slot_full _ _ hbl
  · refine pgS_same (fun q q1 q2 => ?_)
    show (syncV sto.2).2.sure q = _
    rw [hoth q (by omega), hfl q (by omega)]
/-- Behind a Commit, done or not, a crash leaves one root or the other. -/
theorem Comm.crash {D : DS} {T : Int} {R xs : List Int} {r : CR} (c : Comm D T R xs r) (h : PInv D T R) (hl : xs.length ≤ 996) (hx : Bytes xs) (hT : T < 200) (k t : Int) :
    (r.e ≠ 0 ∧ PInv (crashV r.D k t) T R ∧ ∀ q, 8 ≤ q → (∀ p ∈ D.pend, p.1 ≠ q) → (crashV r.D k t).sure q = D.sure q) ∨ (PInv (crashV r.D k t) (T + 1) xs ∧ ∀ q, 8 ≤ q → (crashV r.D k t).sure q = flush D.sure D.pend q) := by
  have h0 := h.t0
  have hok := crashV_ok c.ok k t
  by_cases he : r.e = 0
  · obtain ⟨g1, g2, g3, g4, g5, g6⟩ := c.done he
    have := g4.crash k t
    rw [g5] at this
    exact .inr ⟨this.1, fun q hq => (this.2 q (by simp)).trans (g6 q hq)⟩
  · obtain ⟨g1, g2, g3, g4⟩ := c.not he
    have hsz : (crashV r.D k t).size = D.size := c.size
    have hfl : ∀ q, q < 8 → flush D.sure D.pend q = D.sure q := fun q hq => flush_none (fun p hp e => by have := h.pd p hp; omega)
    rcases g4 with ⟨g4, g5⟩ | ⟨j, hj, g4, g5⟩
    · left
      refine ⟨he, h.other hok hsz (fun p hp => (by cases hp)) (fun q hq => ?_), fun q hq hp => ?_⟩
      · show crashS r.D.sure r.D.pend _ _ q = _
        rw [g4, g5]
        exact crashS_none (fun p hp e => by have := h.pd p hp; omega)
      · show crashS r.D.sure r.D.pend _ _ q = _
        rw [g4, g5]
        exact crashS_none hp
    · have hbl := packL_len (k := 1) (n := (T + 1) % 2) (t := T + 1) hl
      have hcl := clampN_le k r.D.pend.length
      have hso : ∀ q, Blk (flush D.sure D.pend q) := fun q => flush_blk h.ok.sure h.ok.pend q
      have hcr : (crashV r.D k t).sure = crashS (flush D.sure D.pend) (slotW ((T + 1) % 2) (packL 1 ((T + 1) % 2) (T + 1) xs) j) (clampN k r.D.pend.length) (clampN t 256) := by
        show crashS r.D.sure r.D.pend _ _ = _
        rw [g4, g5]
      rw [g5, slotW_len] at hcl
      rw [g5, slotW_len] at hcr
      obtain ⟨m1, m2⟩ := slot_crash (flush D.sure D.pend) ((T + 1) % 2) hbl j (clampN k j) (clampN t 256) hj hcl (clampN_le _ _) hso
      rw [← hcr] at m1 m2
      have hcur : pgS (crashV r.D k t).sure (T % 2) = pgS D.sure (T % 2) := pgS_same (fun q q1 q2 => by rw [m1 q (by omega), hfl q (by omega)])
      rcases m2 with m2 | ⟨t', ht', m2⟩
      · right
        exact ⟨h.next hl hx hT hok hsz rfl m2 hcur, fun q hq => m1 q (by omega)⟩
      · left
        rw [hfl _ (by omega)] at m2
        exact ⟨he, h.stays hl hT hok hsz rfl hcur ht' m2, fun q hq hp => by rw [m1 q (by omega), flush_none hp]⟩
/-- A Commit on a disk that fails no call is done. -/
theorem planV_no {D : DS} (h : D.planned = false) : planV D = (0, D) := by unfold planV; rw [if_pos h]
theorem stoV_no (D : DS) (s : Int) {b : List Int} (h : D.planned = false) (h0 : 0 ≤ s) (h1 : s * 4 + 3 < D.size) (hb : b.length = 1024) : ∀ k, k ≤ 4 → stoV D s b k = (0, { D with pend := D.pend ++ slotW s b k })
  | 0, _ => by simp [stoV, slotW]
  | k + 1, hk => by
    have ih := stoV_no D s h h0 h1 hb k (by omega)
    unfold stoV
    rw [ih, if_neg (by simp)]
    unfold writeV
    rw [hasV_in (by omega) (by show _ < D.size; omega), if_neg (by simp), if_neg (by rw [seg_len (by omega)]; omega)]
    simp only
    rw [planV_no (D := { D with pend := D.pend ++ slotW s b k }) h, if_neg (by simp)]
    simp only
    rw [slotW, List.append_assoc]
theorem syncV_no {D : DS} (h : D.planned = false) : syncV D = (0, { D with sure := flush D.sure D.pend, pend := [] }) := by
  unfold syncV
  rw [planV_no h, if_neg (by simp)]
theorem PInv.commit_ok {D : DS} {T : Int} {R xs : List Int} (h : PInv D T R) (hl : xs.length ≤ 996) (hT : T < 200) (hp : D.planned = false) : (scommitV D T R false xs).e = 0 ∧ (scommitV D T R false xs).D.planned = false := by
  have h0 := h.t0
  have hn : nxT T = T + 1 := by unfold nxT; omega
  have hpk : packV 1 ((T + 1) % 2) (T + 1) xs = (packL 1 ((T + 1) % 2) (T + 1) xs, 0) := by
    unfold packV
    rw [if_neg (by omega), if_neg (by omega)]
  have hbl := packL_len (k := 1) (n := (T + 1) % 2) (t := T + 1) hl
  have hn0 := h.n0
  have e1 := syncV_no hp
  have e2 : storeV { D with sure := flush D.sure D.pend, pend := [] } ((T + 1) % 2) (packL 1 ((T + 1) % 2) (T + 1) xs) = (0, { D with sure := flush D.sure D.pend, pend := [] ++ slotW ((T + 1) % 2) (packL 1 ((T + 1) % 2) (T + 1) xs) 4 }) := stoV_no { D with sure := flush D.sure D.pend, pend := [] } ((T + 1) % 2) hp (by omega) (by show _ < D.size; omega) hbl 4 (by omega)
  have e3 := syncV_no (D := { D with sure := flush D.sure D.pend, pend := [] ++ slotW ((T + 1) % 2) (packL 1 ((T + 1) % 2) (T + 1) xs) 4 }) hp
  unfold scommitV
  rw [if_neg (by decide), hn, hpk]
  simp only
  rw [if_neg (by decide), e1]
  simp only
  rw [if_neg (by decide), e2]
  simp only
  rw [if_neg (by decide), e3]
  simp only
  rw [if_neg (by decide)]
  exact ⟨rfl, hp⟩
end Go.Proofs.Ytnmjphfigffheaa
