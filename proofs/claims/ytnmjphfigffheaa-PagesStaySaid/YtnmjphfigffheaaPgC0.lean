/- pages, plain: what a crash leaves: the root of ahead, or the new one. -/
import Derived.Test.YtnmjphfigffheaaPgA
namespace Go.Proofs.Ytnmjphfigffheaa
set_option linter.unusedVariables false
set_option linter.unusedSimpArgs false
open Go.RowKit Go.Proofs.YtnmjphfigffheaaW.PrintWords Go.Proofs.YtnmjphfigffheaaW.PrintLast

/-- A page of a disk's sectors. -/
def pgS (S : Int → List Int) (i : Int) : List Int := S (i * 4) ++ S (i * 4 + 1) ++ S (i * 4 + 2) ++ S (i * 4 + 3)
theorem nowP_none {ps : List (Int × List Int)} {i : Int} (h : ∀ p ∈ ps, p.1 ≠ i) (b : List Int) : nowP ps i b = b := by
  induction ps generalizing b with
  | nil => rfl
  | cons p ps ih => rw [nowP, if_neg (h p (by simp)), ih (fun q hq => h q (by simp [hq]))]
theorem flush_eq (S : Int → List Int) (P : List (Int × List Int)) (k : Int) : flush S P k = nowP P k (S k) := by
  induction P generalizing S with
  | nil => rfl
  | cons p P ih =>
    show flush (updS S p.1 p.2) P k = _
    rw [ih, nowP]
    unfold updS
    by_cases h : k = p.1
    · rw [if_pos h, if_pos h.symm]
    · rw [if_neg h, if_neg (fun e => h e.symm)]
theorem flush_none {S : Int → List Int} {P : List (Int × List Int)} {k : Int} (h : ∀ p ∈ P, p.1 ≠ k) : flush S P k = S k := by rw [flush_eq, nowP_none h]
theorem hasV_in {n i : Int} (h0 : 0 ≤ i) (h1 : i < n) : hasV n i = 0 := by unfold hasV; rw [if_pos ⟨h0, h1⟩]
theorem readR_none {D : DS} {i : Int} (h0 : 0 ≤ i) (h1 : i < D.size) (h : ∀ p ∈ D.pend, p.1 ≠ i) : readR D i = D.sure i := by
  unfold readR readV
  rw [if_pos (hasV_in h0 h1), nowP_none h]
theorem readR_flush {D : DS} {i : Int} (h0 : 0 ≤ i) (h1 : i < D.size) : readR D i = flush D.sure D.pend i := by
  unfold readR readV
  rw [if_pos (hasV_in h0 h1), flush_eq]
theorem loadV_eq (D : DS) (n : Int) : loadV D n = readR D (n * 4) ++ readR D (n * 4 + 1) ++ readR D (n * 4 + 2) ++ readR D (n * 4 + 3) := by
  unfold loadV loadK loadK loadK loadK loadK
  simp
theorem load_flush {D : DS} {i : Int} (h0 : 0 ≤ i) (h1 : i * 4 + 3 < D.size) : loadV D i = pgS (flush D.sure D.pend) i := by
  rw [loadV_eq, readR_flush (by omega) (by omega), readR_flush (by omega) (by omega), readR_flush (by omega) (by omega), readR_flush (by omega) (by omega)]
  rfl
theorem load_pg {D : DS} {i : Int} (h0 : 0 ≤ i) (h1 : i * 4 + 3 < D.size) (h : ∀ p ∈ D.pend, p.1 < i * 4 ∨ i * 4 + 4 ≤ p.1) : loadV D i = pgS D.sure i := by
  rw [loadV_eq, readR_none (by omega) (by omega) (fun p hp => by have := h p hp; omega), readR_none (by omega) (by omega) (fun p hp => by have := h p hp; omega), readR_none (by omega) (by omega) (fun p hp => by have := h p hp; omega), readR_none (by omega) (by omega) (fun p hp => by have := h p hp; omega)]
  rfl
theorem pgS_len {S : Int → List Int} (h : ∀ k, Blk (S k)) (i : Int) : (pgS S i).length = 1024 := by
  simp only [pgS, List.length_append, (h _).1]
theorem pgS_bytes {S : Int → List Int} (h : ∀ k, Blk (S k)) (i : Int) : Bytes (pgS S i) := (((h _).2.append (h _).2).append (h _).2).append (h _).2
theorem pgS_same {S S' : Int → List Int} {i : Int} (h : ∀ q, i * 4 ≤ q → q < i * 4 + 4 → S' q = S q) : pgS S' i = pgS S i := by
  unfold pgS
  rw [h _ (by omega) (by omega), h _ (by omega) (by omega), h _ (by omega) (by omega), h _ (by omega) (by omega)]
theorem pgS_tail {S : Int → List Int} (h : ∀ k, Blk (S k)) (i : Int) : seg (pgS S i) 1016 1024 = (S (i * 4 + 3)).drop 248 := by
  unfold seg pgS
  rw [List.drop_append, List.length_append, List.length_append, (h _).1, (h _).1, (h _).1]
  rw [List.drop_eq_nil_of_le (by simp only [List.length_append, (h _).1]; omega), List.nil_append]
  exact List.take_of_length_le (by rw [List.length_drop, (h _).1]; omega)
theorem segs4 {b : List Int} (h : b.length = 1024) : seg b 0 256 ++ seg b 256 512 ++ seg b 512 768 ++ seg b 768 1024 = b := by
  have e : seg b 0 256 = b.take 256 := by simp [seg]
  rw [e, seg_cut b (by omega), seg_cut b (by omega), seg_cut b (by omega)]
  exact List.take_of_length_le (by omega)
theorem be8 {v : Int} (h0 : 0 ≤ v) (h1 : v ≤ 255) : be 8 v = [0, 0, 0, 0, 0, 0, 0, v] := by
  have e1 : v / 256 = 0 := by omega
  have e2 : v % 256 = v := by omega
  simp [be, e1, e2]
/-- The writes of a page. -/
def slotW (s : Int) (b : List Int) : Nat → List (Int × List Int)
  | 0 => []
  | k + 1 => slotW s b k ++ [(s * 4 + (k : Int), seg b (256 * k) (256 * k + 256))]
theorem slotW_len (s : Int) (b : List Int) : ∀ k, (slotW s b k).length = k
  | 0 => rfl
  | k + 1 => by rw [slotW, List.length_append, slotW_len s b k]; rfl
theorem slotW_take (s : Int) (b : List Int) : ∀ k n, n ≤ k → (slotW s b k).take n = slotW s b n
  | 0, n, h => by obtain rfl : n = 0 := by omega
                  rfl
  | k + 1, n, h => by
    by_cases e : n = k + 1
    · subst e; rw [List.take_of_length_le (by rw [slotW_len]; omega)]
    · rw [slotW, List.take_append_of_le_length (by rw [slotW_len]; omega), slotW_take s b k n (by omega)]
theorem slotW_at (s : Int) (b : List Int) (k n : Nat) (h : n < k) : (slotW s b k).drop n = (s * 4 + (n : Int), seg b (256 * n) (256 * n + 256)) :: (slotW s b k).drop (n + 1) := by
  have hl := slotW_len s b k
  rw [List.drop_eq_getElem_cons (by omega)]
  congr 1
  have e := slotW_take s b k (n + 1) (by omega)
  have e2 : ((slotW s b k).take (n + 1))[n]? = (slotW s b (n + 1))[n]? := by rw [e]
  rw [List.getElem?_take, if_pos (by omega), List.getElem?_eq_getElem (by omega), slotW, List.getElem?_append_right (by rw [slotW_len]; exact Nat.le_refl _)] at e2
  simp only [slotW_len, Nat.sub_self, List.getElem?_cons_zero] at e2
  injection e2
theorem slotW_mem {s : Int} {b : List Int} : ∀ {k : Nat} {p : Int × List Int}, p ∈ slotW s b k → s * 4 ≤ p.1 ∧ p.1 < s * 4 + k
  | 0, p, h => by cases h
  | k + 1, p, h => by
    rw [slotW] at h
    rcases List.mem_append.1 h with h | h
    · have := slotW_mem h; omega
    · rw [List.mem_singleton.1 h]; simp; omega
theorem slot_flush (S : Int → List Int) (s : Int) (b : List Int) : ∀ k i, i < k → flush S (slotW s b k) (s * 4 + (i : Nat)) = seg b (256 * i) (256 * i + 256)
  | 0, i, h => by omega
  | k + 1, i, h => by
    rw [slotW, flush_snoc]
    unfold updS
    by_cases e : i = k
    · subst e; rw [if_pos rfl]
    · rw [if_neg (by simp only; omega)]
      exact slot_flush S s b k i (by omega)
theorem slot_other (S : Int → List Int) (s : Int) (b : List Int) (k : Nat) {q : Int} (h : q < s * 4 ∨ s * 4 + k ≤ q) : flush S (slotW s b k) q = S q :=
  flush_none (fun p hp e => by have := slotW_mem hp; omega)
theorem slot_full (S : Int → List Int) (s : Int) {b : List Int} (hb : b.length = 1024) : pgS (flush S (slotW s b 4)) s = b := by
  have h0 := slot_flush S s b 4 0 (by omega)
  have h1 := slot_flush S s b 4 1 (by omega)
  have h2 := slot_flush S s b 4 2 (by omega)
  have h3 := slot_flush S s b 4 3 (by omega)
  unfold pgS
  rw [show s * 4 + ((0 : Nat) : Int) = s * 4 by simp] at h0
  rw [show s * 4 + ((1 : Nat) : Int) = s * 4 + 1 by simp] at h1
  rw [show s * 4 + ((2 : Nat) : Int) = s * 4 + 2 by simp] at h2
  rw [show s * 4 + ((3 : Nat) : Int) = s * 4 + 3 by simp] at h3
  rw [h0, h1, h2, h3]
  exact segs4 hb
/-- A crash at a page's writes. -/
theorem slot_crash (S : Int → List Int) (s : Int) {b : List Int} (hb : b.length = 1024) (k n t : Nat) (hk : k ≤ 4) (hn : n ≤ k) (ht : t ≤ 256) (hS : ∀ q, Blk (S q)) :
    (∀ q, (q < s * 4 ∨ s * 4 + 4 ≤ q) → crashS S (slotW s b k) n t q = S q) ∧ (pgS (crashS S (slotW s b k) n t) s = b ∨ ∃ t', t' < 256 ∧ crashS S (slotW s b k) n t (s * 4 + 3) = tornB t' (seg b 768 1024) (S (s * 4 + 3))) := by
  have hz : ∀ x y : List Int, tornB 0 x y = y := fun x y => by simp [tornB]
  by_cases hnk : n < k
  · have e : crashS S (slotW s b k) n t = updS (flush S (slotW s b n)) (s * 4 + (n : Int)) (tornB t (seg b (256 * n) (256 * n + 256)) (flush S (slotW s b n) (s * 4 + (n : Int)))) := by
      unfold crashS
      rw [slotW_at s b k n hnk, slotW_take s b k n hn]
    rw [e]
    constructor
    · intro q hq
      unfold updS
      rw [if_neg (by omega), slot_other S s b n (by omega)]
    · by_cases h3 : n = 3
      · subst h3
        have e3 : flush S (slotW s b 3) (s * 4 + ((3 : Nat) : Int)) = S (s * 4 + 3) := slot_other S s b 3 (by omega)
        rw [e3]
        by_cases h256 : t = 256
        · left
          subst h256
          have ef : tornB 256 (seg b 768 1024) (S (s * 4 + 3)) = seg b 768 1024 := by
            unfold tornB
            rw [List.take_of_length_le (by rw [seg_len (by omega)]; omega), List.drop_eq_nil_of_le (by rw [(hS _).1]; omega), List.append_nil]
          have e4 : updS (flush S (slotW s b 3)) (s * 4 + ((3 : Nat) : Int)) (tornB 256 (seg b 768 1024) (S (s * 4 + 3))) = flush S (slotW s b 4) := by
            rw [ef, show slotW s b 4 = slotW s b 3 ++ [(s * 4 + ((3 : Nat) : Int), seg b (256 * 3) (256 * 3 + 256))] from rfl, flush_snoc]
          rw [show 256 * 3 = 768 from rfl, show 768 + 256 = 1024 from rfl, e4]
          exact slot_full S s hb
        · right
          refine ⟨t, by omega, ?_⟩
          unfold updS
          rw [if_pos (by simp)]
      · right
        refine ⟨0, by omega, ?_⟩
        unfold updS
        rw [if_neg (by omega), slot_other S s b n (by omega), hz]
  · obtain rfl : n = k := by omega
    have e : crashS S (slotW s b n) n t = flush S (slotW s b n) := by
      unfold crashS
      rw [List.drop_eq_nil_of_le (by rw [slotW_len]; omega), slotW_take s b n n (by omega)]
    rw [e]
    constructor
    · intro q hq
      exact slot_other S s b n (by omega)
    · by_cases h4 : n = 4
      · subst h4; exact .inl (slot_full S s hb)
      · right
        refine ⟨0, by omega, ?_⟩
        rw [slot_other S s b n (by omega), hz]
theorem torn_tail {B X : List Int} {u v : Int} (hB : B.length = 256) (hX : X.length = 256) (hu : 0 ≤ u ∧ u ≤ 255) (hv : 0 ≤ v ∧ v ≤ 255) (h1 : B.drop 248 = be 8 u) (h2 : X.drop 248 = be 8 v) (t : Nat) (ht : t < 256) : (tornB t B X).drop 248 = be 8 v := by
  unfold tornB
  by_cases h : t ≤ 248
  · rw [List.drop_append, List.drop_eq_nil_of_le (by rw [List.length_take]; omega), List.nil_append, List.length_take, List.drop_drop, ← h2, show t + (248 - min t B.length) = 248 by omega]
  · rw [List.drop_append, List.length_take, List.drop_take, show 248 - min t B.length = 0 by omega, List.drop_zero, h1]
    have e : X.drop t = (be 8 v).drop (t - 248) := by rw [← h2, List.drop_drop, show 248 + (t - 248) = t by omega]
    rw [e, be8 hu.1 hu.2, be8 hv.1 hv.2]
    obtain ⟨m, hm⟩ : ∃ m, t - 248 = m := ⟨_, rfl⟩
    rw [hm]
    have : m = 1 ∨ m = 2 ∨ m = 3 ∨ m = 4 ∨ m = 5 ∨ m = 6 ∨ m = 7 := by omega
    rcases this with rfl | rfl | rfl | rfl | rfl | rfl | rfl <;> rfl
/-- A disk on which a root was made: turn T, root R. -/
structure PInv (D : DS) (T : Int) (R : List Int) : Prop where
  ok : D.Ok
  n0 : 16 ≤ D.size
  t0 : 0 ≤ T
  t1 : T ≤ 200
  rl : R.length ≤ 996
  rb : Bytes R
  pd : ∀ p ∈ D.pend, 8 ≤ p.1
  zero : T = 0 → R = [] ∧ ∀ c ∈ pgS D.sure 0, c = 0
  cur : 0 < T → pgS D.sure (T % 2) = packL 1 (T % 2) T R
  old : ge (seg (pgS D.sure ((T + 1) % 2)) 1016 1024) ≤ T
theorem zero_page {b : List Int} (h : ∀ c ∈ b, c = 0) (n : Int) : unpackV b n = (0, 0, [], 161) := by
  unfold unpackV
  rw [if_neg (fun e => ?_)]
  have hp := (pageB_iff _ _).1 e
  refine hp.k ?_
  have := rd_lt b 0 (by rw [hp.len]; decide)
  rw [show ((0 : Nat) : Int) = 0 from rfl] at this
  rw [this]
  exact h _ (List.getElem_mem _)
theorem unpack_turn {b : List Int} {n : Int} (h : (unpackV b n).2.2.2 = 0) : (unpackV b n).2.1 = ge (seg b 1016 1024) := by
  unfold unpackV at h ⊢
  by_cases hp : pageB b n = true
  · rw [if_pos hp]
    exact ((pageB_iff _ _).1 hp).turn.symm
  · rw [if_neg hp] at h; cases h
theorem PInv.pk {D : DS} {T : Int} {R : List Int} (h : PInv D T R) (hT : 0 < T) : PkOk 1 (T % 2) T R :=
  ⟨by decide, by decide, by omega, by omega, by omega, by have := h.t1; omega, h.rl, h.rb⟩
theorem PInv.opens {D : DS} {T : Int} {R : List Int} (h : PInv D T R) : openE D = 0 ∧ openT D = (T, R) := by
  have hn := h.n0
  have hm := h.ok.max
  have l0 : loadV D 0 = pgS D.sure 0 := load_pg (by omega) (by omega) (fun p hp => by have := h.pd p hp; omega)
  have l1 : loadV D 1 = pgS D.sure 1 := load_pg (by omega) (by omega) (fun p hp => by have := h.pd p hp; omega)
  have hT : openT D = openStep D 1 (openStep D 0 (0, [])) := rfl
  have h0 := h.t0
  have hE : openT D = (T, R) ∧ ((openT D).1 = 0 → (loadV D 0).any (fun c => c != 0) = false) := by
    by_cases hz : T = 0
    · subst hz
      obtain ⟨rfl, hz⟩ := h.zero rfl
      have ho := h.old
      rw [show ((0 : Int) + 1) % 2 = 1 from rfl] at ho
      have e : openT D = (0, []) := by
        rw [hT]
        have e0 : openStep D 0 (0, []) = (0, []) := by
          unfold openStep
          rw [l0, zero_page hz, if_neg (by decide)]
        rw [e0]
        unfold openStep
        rw [l1, if_neg]
        rintro ⟨g1, g2, g3, g4⟩
        rw [unpack_turn g1] at g3
        simp only at g3
        omega
      refine ⟨e, fun _ => ?_⟩
      rw [l0, List.any_eq_false]
      intro c hc
      rw [hz c hc]; decide
    · have hp := h.pk (by omega)
      have hc := h.cur (by omega)
      have ho := h.old
      have hu := unpack_pack hp
      by_cases hpar : T % 2 = 0
      · rw [hpar] at hc hu
        rw [show (T + 1) % 2 = 1 by omega] at ho
        have e0 : openStep D 0 (0, []) = (T, R) := by
          unfold openStep
          rw [l0, hc, hu, if_pos ⟨rfl, rfl, by simp only; omega, by simp only; omega⟩]
        have e : openT D = (T, R) := by
          rw [hT, e0]
          unfold openStep
          rw [l1, if_neg]
          rintro ⟨g1, g2, g3, g4⟩
          rw [unpack_turn g1] at g3
          simp only at g3
          omega
        exact ⟨e, fun h9 => by rw [e] at h9; simp only at h9; omega⟩
      · have hpar1 : T % 2 = 1 := by omega
        rw [hpar1] at hc hu
        rw [show (T + 1) % 2 = 0 by omega] at ho
        have e0 : (openStep D 0 (0, [])).1 < T := by
          unfold openStep
          split
          · rename_i g
            obtain ⟨g1, g2, g3, g4⟩ := g
            rw [l0] at g1 g4 ⊢
            rw [unpack_turn g1] at g4 ⊢
            (try simp only)
            omega
          · (try simp only); omega
        have e : openT D = (T, R) := by
          rw [hT]
          generalize openStep D 0 (0, []) = s at *
          unfold openStep
          rw [l1, hc, hu, if_pos ⟨rfl, rfl, by simp only; omega, by simp only; omega⟩]
        exact ⟨e, fun h9 => by rw [e] at h9; simp only at h9; omega⟩
  refine ⟨?_, hE.1⟩
  unfold openE
  rw [if_neg (by omega), if_neg]
  rintro ⟨g1, g2⟩
  rw [hE.2 g1] at g2
  cases g2
theorem PInv.new {n : Int} (h : 16 ≤ n) (h2 : n ≤ 65536) : PInv (newD n) 0 [] := by
  have hz : ∀ i, pgS (newD n).sure i = List.replicate 1024 0 := fun i => by
    show z256 ++ z256 ++ z256 ++ z256 = _
    simp only [z256, List.replicate_append_replicate]
  refine ⟨⟨by show 0 < n; omega, h2, fun _ => z256_blk, fun p hp => (by cases hp)⟩, h, by omega, by omega, by simp, fun x hx => (by cases hx), fun p hp => (by cases hp), fun _ => ⟨rfl, fun c hc => by rw [hz] at hc; exact List.eq_of_mem_replicate hc⟩, fun h => by omega, ?_⟩
  rw [hz]
  have e : seg (List.replicate 1024 (0 : Int)) 1016 1024 = be 8 0 := by decide +kernel
  rw [e]
  decide
/-- Sectors that are no page of a root. -/
theorem PInv.other {D D' : DS} {T : Int} {R : List Int} (h : PInv D T R) (ho : D'.Ok) (hs : D'.size = D.size) (hp : ∀ p ∈ D'.pend, 8 ≤ p.1) (hq : ∀ q, q < 8 → D'.sure q = D.sure q) : PInv D' T R := by
  have h0 := h.t0
  have e0 : pgS D'.sure 0 = pgS D.sure 0 := pgS_same (fun q _ _ => hq q (by omega))
  have e1 : pgS D'.sure (T % 2) = pgS D.sure (T % 2) := pgS_same (fun q _ _ => hq q (by omega))
  have e2 : pgS D'.sure ((T + 1) % 2) = pgS D.sure ((T + 1) % 2) := pgS_same (fun q _ _ => hq q (by omega))
  exact ⟨ho, by rw [hs]; exact h.n0, h.t0, h.t1, h.rl, h.rb, hp, by rw [e0]; exact h.zero, by rw [e1]; exact h.cur, by rw [e2]; exact h.old⟩
theorem crashS_none {S : Int → List Int} {ps : List (Int × List Int)} {n t : Nat} {q : Int} (h : ∀ p ∈ ps, p.1 ≠ q) : crashS S ps n t q = S q := by
  have h1 : flush S (ps.take n) q = S q := flush_none (fun p hp => h p (List.mem_of_mem_take hp))
  unfold crashS
  rcases e : ps.drop n with _ | ⟨p, l⟩
  · exact h1
  · simp only
    have hm : p ∈ ps := List.mem_of_mem_drop (by rw [e]; simp)
    unfold updS
    rw [if_neg (fun e => h p hm e.symm), h1]
theorem crashS_blk {S : Int → List Int} {ps : List (Int × List Int)} {n t : Nat} (hS : ∀ k, Blk (S k)) (h : ∀ p ∈ ps, Blk p.2) (ht : t ≤ 256) (q : Int) : Blk (crashS S ps n t q) := by
  have h1 : ∀ q, Blk (flush S (ps.take n) q) := fun q => flush_blk hS (fun p hp => h p (List.mem_of_mem_take hp)) q
  unfold crashS
  rcases e : ps.drop n with _ | ⟨p, l⟩
  · exact h1 q
  · simp only
    have hm : p ∈ ps := List.mem_of_mem_drop (by rw [e]; simp)
    unfold updS
    split
    · exact tornB_blk (h p hm) (h1 _) ht
    · exact h1 q
theorem crashV_ok {D : DS} (h : D.Ok) (k t : Int) : (crashV D k t).Ok :=
  ⟨h.pos, h.max, fun q => crashS_blk h.sure h.pend (clampN_le _ _) q, fun p hp => (by cases hp)⟩
/-- A crash while no root was being made. -/
theorem PInv.crash {D : DS} {T : Int} {R : List Int} (h : PInv D T R) (k t : Int) : PInv (crashV D k t) T R ∧ ∀ q, (∀ p ∈ D.pend, p.1 ≠ q) → (crashV D k t).sure q = D.sure q :=
  ⟨h.other (crashV_ok h.ok k t) rfl (fun p hp => (by cases hp)) (fun q hq => crashS_none (fun p hp e => by have := h.pd p hp; omega)), fun q hq => crashS_none hq⟩
end Go.Proofs.Ytnmjphfigffheaa
