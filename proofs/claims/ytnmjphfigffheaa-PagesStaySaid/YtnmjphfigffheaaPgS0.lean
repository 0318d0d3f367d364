/- pages, plain: a page that was committed stays as it is behind anything that writes other pages, and any crash. -/
import Derived.Test.YtnmjphfigffheaaPgC1
namespace Go.Proofs.Ytnmjphfigffheaa
set_option linter.unusedVariables false
set_option linter.unusedSimpArgs false
open Go.RowKit Go.Proofs.YtnmjphfigffheaaW.PrintWords Go.Proofs.YtnmjphfigffheaaW.PrintLast

/-- Whatever the crash, page 5 is there. -/
def Safe5 (D : DS) (c : List Int) : Prop := ∀ k t, ∃ T R, PInv (crashV D k t) T R ∧ pgS (crashV D k t).sure 5 = packL 9 5 1 c
structure Live5 (D : DS) (T : Int) (R c : List Int) : Prop where
  inv : PInv D T R
  pd5 : ∀ p ∈ D.pend, p.1 < 20 ∨ 24 ≤ p.1
  pg : pgS D.sure 5 = packL 9 5 1 c
theorem Live5.safe {D : DS} {T : Int} {R c : List Int} (h : Live5 D T R c) : Safe5 D c := fun k t => by
  obtain ⟨h1, h2⟩ := h.inv.crash k t
  exact ⟨T, R, h1, (pgS_same (fun q q1 q2 => h2 q (fun p hp e => by have := h.pd5 p hp; omega))).trans h.pg⟩
/-- What a law has of the store. -/
structure St5 (D : DS) (T : Int) (R : List Int) (B : Bool) (c : List Int) (m : Nat) : Prop where
  safe : Safe5 D c
  live : B = false → Live5 D T R c
  t : 0 ≤ T ∧ T ≤ m + 1
  size : D.size = 32
  aft : D.after ≤ 9223372036854775807
  pend : D.pend.length ≤ 8 * m
theorem failV_sure (D : DS) (a e : Int) : (failV D a e).2.sure = D.sure ∧ (failV D a e).2.pend = D.pend ∧ (failV D a e).2.size = D.size := by
  unfold failV
  split <;> exact ⟨rfl, rfl, rfl⟩
theorem failV_after (D : DS) (a e : Int) (h : D.after ≤ 9223372036854775807) (ha : a ≤ 9223372036854775807) : (failV D a e).2.after ≤ 9223372036854775807 := by
  unfold failV
  split
  · exact ha
  · exact h
theorem PInv.fail {D : DS} {T : Int} {R : List Int} (h : PInv D T R) (a e : Int) : PInv (failV D a e).2 T R := by
  obtain ⟨h1, h2, h3⟩ := failV_sure D a e
  have ho := h.ok
  exact h.other ⟨by rw [h3]; exact ho.pos, by rw [h3]; exact ho.max, by rw [h1]; exact ho.sure, by rw [h2]; exact ho.pend⟩ h3 (by rw [h2]; exact h.pd) (fun q _ => by rw [h1])
theorem St5.fail {D : DS} {T : Int} {R c : List Int} {B : Bool} {m : Nat} (h : St5 D T R B c m) (a e : Int) (ha : a ≤ 9223372036854775807) : St5 (failV D a e).2 T R B c (m + 1) := by
  obtain ⟨h1, h2, h3⟩ := failV_sure D a e
  refine ⟨fun k t => ?_, fun hB => ?_, by have := h.t; omega, h3.trans h.size, failV_after D a e h.aft ha, by rw [h2]; have := h.pend; omega⟩
  · obtain ⟨T', R', g1, g2⟩ := h.safe k t
    have es : (crashV (failV D a e).2 k t).sure = (crashV D k t).sure := by
      show crashS (failV D a e).2.sure (failV D a e).2.pend (clampN k (failV D a e).2.pend.length) _ = crashS D.sure D.pend (clampN k D.pend.length) _
      rw [h1, h2]
    refine ⟨T', R', g1.other ⟨?_, ?_, by rw [es]; exact g1.ok.sure, fun p hp => (by cases hp)⟩ h3 (fun p hp => (by cases hp)) (fun q _ => by rw [es]), by rw [es]; exact g2⟩
    · show 0 < (failV D a e).2.size; rw [h3]; exact g1.ok.pos
    · show (failV D a e).2.size ≤ _; rw [h3]; exact g1.ok.max
  · have hl := h.live hB
    exact ⟨hl.inv.fail a e, by rw [h2]; exact hl.pd5, by rw [h1]; exact hl.pg⟩
theorem St5.more {D : DS} {T : Int} {R c : List Int} {B : Bool} {m : Nat} (h : St5 D T R B c m) : St5 D T R B c (m + 1) :=
  ⟨h.safe, h.live, by have := h.t; omega, h.size, h.aft, by have := h.pend; omega⟩
theorem St5.write {D : DS} {T : Int} {R c : List Int} {B : Bool} {m : Nat} (h : St5 D T R B c m) (n k : Int) (xs : List Int) (hn : n ≠ 5) (hk : 0 ≤ k ∧ k ≤ 255) (hx : Bytes xs) (hm : m < 190) :
    St5 (swriteV D T B n k xs).2.1 T R (swriteV D T B n k xs).2.2 c (m + 1) := by
  unfold swriteV
  by_cases h1 : dataV (D.size / 4) n ≠ 0
  · rw [if_pos h1]; exact h.more
  rw [if_neg h1]
  have h1' := dataV_ok (by simpa using h1)
  cases B with
  | true => rw [if_pos rfl]; exact h.more
  | false =>
    rw [if_neg (by decide)]
    by_cases h3 : (packV k n (nxT T) xs).2 ≠ 0
    · rw [if_pos h3]; exact h.more
    · rw [if_neg h3]
      have hl := h.live rfl
      have hsz := h.size
      have hpk : packV k n (nxT T) xs = (packL k n (nxT T) xs, 0) ∧ xs.length ≤ 996 := by
        unfold packV at h3 ⊢
        split at h3
        · exact absurd (by decide) h3
        · rename_i g1
          split at h3
          · exact absurd (by decide) h3
          · rename_i g2
            rw [if_neg g1, if_neg g2]
            exact ⟨rfl, by omega⟩
      have hbl := packL_len (k := k) (n := n) (t := nxT T) hpk.2
      have hby := packL_bytes (k := k) (n := n) (t := nxT T) hk hx
      rw [hpk.1]
      simp only
      obtain ⟨j, hj, s1, s2, s3, s4⟩ := stoV_form D n (by omega) (by rw [hsz] at h1' ⊢; omega) hbl 4 (by omega)
      have haf := (stoV_keeps D n (packL k n (nxT T) xs) 4).1
      have hsto : stoV D n (packL k n (nxT T) xs) 4 = storeV D n (packL k n (nxT T) xs) := rfl
      rw [hsto] at s1 s2 s3 s4 haf
      generalize storeV D n (packL k n (nxT T) xs) = sto at *
      have hmem : ∀ p ∈ sto.2.pend, (8 ≤ p.1 ∧ (p.1 < 20 ∨ 24 ≤ p.1)) ∧ Blk p.2 := by
        intro p hp
        rw [s1] at hp
        rcases List.mem_append.1 hp with hp | hp
        · exact ⟨⟨hl.inv.pd p hp, hl.pd5 p hp⟩, hl.inv.ok.pend p hp⟩
        · have := slotW_mem hp
          exact ⟨by omega, slotW_blk hbl hby j hj p hp⟩
      have hok : sto.2.Ok := ⟨by rw [s3]; exact hl.inv.ok.pos, by rw [s3]; exact hl.inv.ok.max, by rw [s2]; exact hl.inv.ok.sure, fun p hp => (hmem p hp).2⟩
      have hL : Live5 sto.2 T R c := ⟨hl.inv.other hok s3 (fun p hp => (hmem p hp).1.1) (fun q _ => by rw [s2]), fun p hp => (hmem p hp).1.2, by rw [s2]; exact hl.pg⟩
      exact ⟨hL.safe, fun _ => hL, by have := h.t; omega, s3.trans hsz, Int.le_trans haf h.aft, by rw [s1, List.length_append, slotW_len]; have := h.pend; omega⟩
theorem scommitV_after (D : DS) (T : Int) (R : List Int) (B : Bool) (xs : List Int) : (scommitV D T R B xs).D.after ≤ D.after ∧ (scommitV D T R B xs).D.pend.length ≤ D.pend.length + 4 := by
  have h1 := syncV_keeps D
  have h2 := fun b => stoV_keeps (syncV D).2 (nxT T % 2) b 4
  have h3 := fun b => syncV_keeps (storeV (syncV D).2 (nxT T % 2) b).2
  unfold scommitV
  split
  · exact ⟨Int.le_refl _, by simp⟩
  split
  · exact ⟨Int.le_refl _, by simp⟩
  split
  · exact ⟨h1.1, by have := h1.2.1; simp only; omega⟩
  split
  · have := h2 (packV 1 (nxT T % 2) (nxT T) xs).1
    unfold storeV
    simp only
    omega
  split
  · have := h2 (packV 1 (nxT T % 2) (nxT T) xs).1
    have := h3 (packV 1 (nxT T % 2) (nxT T) xs).1
    unfold storeV at *
    simp only
    omega
  · have := h2 (packV 1 (nxT T % 2) (nxT T) xs).1
    have := h3 (packV 1 (nxT T % 2) (nxT T) xs).1
    unfold storeV at *
    simp only
    omega
theorem St5.commit {D : DS} {T : Int} {R c : List Int} {B : Bool} {m : Nat} (h : St5 D T R B c m) (xs : List Int) (hx : Bytes xs) (hm : m < 190) {r : CR} (hr : scommitV D T R B xs = r) : St5 r.D r.T r.R r.B c (m + 1) := by
  have haf := scommitV_after D T R B xs
  have hpl := h.pend
  have hh := h.t
  rw [hr] at haf
  cases B with
  | true =>
    unfold scommitV at hr
    rw [if_pos rfl] at hr
    subst hr
    exact h.more
  | false =>
    have hl := h.live rfl
    by_cases hlen : 996 < xs.length
    · unfold scommitV packV at hr
      rw [if_neg (by decide), if_pos hlen, if_pos (by decide)] at hr
      subst hr
      exact h.more
    · have hc := hl.inv.commit (xs := xs) (by omega) hx (by omega)
      rw [hr] at hc
      by_cases he : r.e = 0
      · obtain ⟨g1, g2, g3, g4, g5, g6⟩ := hc.done he
        have hL : Live5 r.D (T + 1) xs c := ⟨g4, fun p hp => (by rw [g5] at hp; cases hp), (pgS_same (fun q q1 q2 => (g6 q (by omega)).trans (flush_none (fun p hp e => by have := hl.pd5 p hp; omega)))).trans hl.pg⟩
        rw [g1, g2, g3]
        exact ⟨hL.safe, fun _ => hL, by omega, hc.size.trans h.size, by have := h.aft; omega, by omega⟩
      · obtain ⟨g1, g2, g3, g4⟩ := hc.not he
        rw [g1, g2, g3]
        refine ⟨fun k t => ?_, fun e => (by cases e), by omega, hc.size.trans h.size, by have := h.aft; omega, by omega⟩
        rcases hc.crash hl.inv (by omega) hx (by omega) k t with ⟨_, k1, k2⟩ | ⟨k1, k2⟩
        · exact ⟨T, R, k1, (pgS_same (fun q q1 q2 => k2 q (by omega) (fun p hp e => by have := hl.pd5 p hp; omega))).trans hl.pg⟩
        · exact ⟨T + 1, xs, k1, (pgS_same (fun q q1 q2 => (k2 q (by omega)).trans (flush_none (fun p hp e => by have := hl.pd5 p hp; omega)))).trans hl.pg⟩
/-- At the end. -/
theorem Safe5.read {D : DS} {c : List Int} (h : Safe5 D c) (hs : D.size = 32) (hl : c.length ≤ 996) (hx : Bytes c) (k t : Int) : openE (crashV D k t) = 0 ∧ readPV (crashV D k t) 5 = (9, c, 0) := by
  obtain ⟨T, R, h1, h2⟩ := h k t
  refine ⟨h1.opens.1, ?_⟩
  have hsz : (crashV D k t).size = 32 := hs
  have hld : loadV (crashV D k t) 5 = packL 9 5 1 c := (load_pg (by decide) (by rw [hsz]; decide) (fun p hp => (by cases hp))).trans h2
  have hp : PkOk 9 5 1 c := ⟨by decide, by decide, by decide, by decide, by decide, by decide, hl, hx⟩
  unfold readPV
  rw [hsz, hld, unpack_pack hp, if_neg (by decide)]
/-- At the beginning. -/
theorem stay_first {c : List Int} (hl : c.length ≤ 996) (hx : Bytes c) {r : Int × DS × Bool} (hr : swriteV (newD 32) 0 false 5 9 c = r) {s : CR} (hs : scommitV r.2.1 0 [] r.2.2 c = s) :
    r.1 = 0 ∧ r.2.2 = false ∧ r.2.1.after ≤ 9223372036854775807 ∧ r.2.1.pend.length ≤ 999998000 ∧ s.e = 0 ∧ St5 s.D s.T s.R s.B c 0 := by
  have hI := PInv.new (n := 32) (by decide) (by decide)
  have hbl := packL_len (k := 9) (n := 5) (t := 1) hl
  have hby := packL_bytes (k := 9) (n := 5) (t := 1) (by decide) hx
  have hpk : packV 9 5 (nxT 0) c = (packL 9 5 1 c, 0) := by
    unfold packV
    rw [if_neg (by omega), if_neg (by decide)]
    rfl
  have hst : storeV (newD 32) 5 (packL 9 5 1 c) = (0, { newD 32 with pend := [] ++ slotW 5 (packL 9 5 1 c) 4 }) := stoV_no (newD 32) 5 rfl (by decide) (by decide) hbl 4 (by omega)
  have hr2 : r = (0, { newD 32 with pend := [] ++ slotW 5 (packL 9 5 1 c) 4 }, false) := by
    rw [← hr]
    unfold swriteV
    rw [if_neg (by decide), if_neg (by decide), hpk]
    simp only
    rw [if_neg (by decide), hst]
    rfl
  have hr3 : r.1 = 0 ∧ r.2.2 = false ∧ r.2.1 = { newD 32 with pend := slotW 5 (packL 9 5 1 c) 4 } := by
    rw [hr2]
    exact ⟨rfl, rfl, rfl⟩
  obtain ⟨q1, q2, q3⟩ := hr3
  rw [q2, q3] at hs
  rw [q1, q2, q3]
  clear hr2 q1 q2 q3
  have hI2 : PInv { newD 32 with pend := slotW 5 (packL 9 5 1 c) 4 } 0 [] := hI.other ⟨hI.ok.pos, hI.ok.max, hI.ok.sure, slotW_blk hbl hby 4 (by omega)⟩ rfl (fun p hp => by have := slotW_mem hp; omega) (fun q _ => rfl)
  have hc := hI2.commit hl hx (by decide)
  have hco := (hI2.commit_ok hl (by decide) rfl).1
  have haf := scommitV_after { newD 32 with pend := slotW 5 (packL 9 5 1 c) 4 } 0 [] false c
  rw [hs] at hc hco haf
  obtain ⟨g1, g2, g3, g4, g5, g6⟩ := hc.done hco
  have hL : Live5 s.D (0 + 1) c c := by
    refine ⟨g4, fun p hp => (by rw [g5] at hp; cases hp), ?_⟩
    have e : pgS s.D.sure 5 = pgS (flush (newD 32).sure (slotW 5 (packL 9 5 1 c) 4)) 5 := pgS_same (fun q q1 q2 => g6 q (by omega))
    rw [e]
    exact slot_full _ _ hbl
  refine ⟨rfl, rfl, (show (0 : Int) ≤ 9223372036854775807 by decide), by show (slotW 5 (packL 9 5 1 c) 4).length ≤ _; rw [slotW_len]; decide, hco, ?_⟩
  rw [g1, g2, g3]
  exact ⟨hL.safe, fun _ => hL, by omega, hc.size, Int.le_trans haf.1 (show (0 : Int) ≤ 9223372036854775807 by decide), by rw [g5]; simp⟩
end Go.Proofs.Ytnmjphfigffheaa
