/- Texts and their points: the plain laws (there and back, joins, cuts). -/
import Derived.Test.YtpbgpbblbohmgaaCPure
namespace Go.Proofs.Ytpbgpbblbohmgaa
open Go.RowKit Go.Proofs.YtpbgpbblbohmgaaW.PrintWords

theorem putB_bytes (p : Int) : Bytes (putB p) := by
  rcases hp : isPt p with _ | _
  · rw [show putB p = [] by simp [putB, hp]]; exact fun x hx => by cases hx
  · have hb := isPt_bd hp
    by_cases h1 : p < 128
    · rw [putB_one hp h1]; intro x hx; simp at hx; omega
    · by_cases h2 : p < 2048
      · rw [putB_two hp (by omega) h2]; intro x hx; simp at hx; omega
      · by_cases h3 : p < 65536
        · rw [putB_three hp (by omega) h3]; intro x hx; simp at hx; omega
        · rw [putB_four hp (by omega)]; intro x hx; simp at hx; omega

theorem putB_pos (p : Int) (h : isPt p = true) : 1 ≤ (putB p).length := by
  have hb := isPt_bd h
  by_cases c1 : p < 128
  · rw [putB_one h c1]; simp
  · by_cases c2 : p < 2048
    · rw [putB_two h (by omega) c2]; simp
    · by_cases c3 : p < 65536
      · rw [putB_three h (by omega) c3]; simp
      · rw [putB_four h (by omega)]; simp
/-- Points' bytes, one behind the other. -/
def encB : List Int → List Int
  | [] => []
  | p :: t => putB p ++ encB t
def allPt (l : List Int) : Prop := ∀ p ∈ l, isPt p = true
theorem encB_append : ∀ a b : List Int, encB (a ++ b) = encB a ++ encB b
  | [], _ => rfl
  | p :: t, b => by rw [List.cons_append, encB, encB, encB_append t b, List.append_assoc]
theorem encB_bytes : ∀ l : List Int, Bytes (encB l)
  | [] => fun x hx => by cases hx
  | p :: t => (putB_bytes p).append (encB_bytes t)
theorem allPt_cons {p : Int} {t : List Int} (h : allPt (p :: t)) : isPt p = true ∧ allPt t := ⟨h p List.mem_cons_self, fun q hq => h q (List.mem_cons_of_mem _ hq)⟩
theorem allPt_append {a b : List Int} (h : allPt a) (k : allPt b) : allPt (a ++ b) := fun x hx => (List.mem_append.1 hx).elim (h x) (k x)

/-- More rounds than bytes tell nothing more. -/
theorem dec_fuel (l : List Int) : ∀ f, l.length ≤ f → dec f l = dec l.length l := by
  generalize hn : l.length = n
  induction n using Nat.strongRecOn generalizing l with
  | _ n ih =>
    intro f hf
    rcases Nat.eq_zero_or_pos n with h0 | h0
    · subst h0
      cases f with
      | zero => rfl
      | succ f => simp [dec, hn]
    · obtain ⟨f, rfl⟩ : ∃ g, f = g + 1 := ⟨f - 1, by omega⟩
      obtain ⟨n, rfl⟩ : ∃ g, n = g + 1 := ⟨n - 1, by omega⟩
      by_cases he : (nextV l).2.2 = 0
      · have h1 := nextV_len l
        have h2 := h1.2.1 he
        have hd : (l.drop (nextV l).2.1).length = l.length - (nextV l).2.1 := List.length_drop
        rw [dec_step f l (by omega) he, dec_step n l (by omega) he]
        rw [ih _ (by omega) (l.drop (nextV l).2.1) rfl f (by omega), ih _ (by omega) (l.drop (nextV l).2.1) rfl n (by omega)]
      · rw [dec, if_neg (by omega), if_neg he, dec, if_neg (by omega), if_neg he]
/-- Points' bytes, and a text behind them. -/
theorem dec_enc : ∀ (ps r : List Int) (f : Nat), allPt ps → (encB ps ++ r).length ≤ f → dec f (encB ps ++ r) = joinD ps (encB ps).length (dec r.length r)
  | [], r, f, _, hf => by
    have : encB [] ++ r = r := rfl
    rw [this] at hf ⊢
    rw [dec_fuel r f hf]
    simp [joinD, encB]
  | p :: t, r, f, h, hf => by
    obtain ⟨hp, ht⟩ := allPt_cons h
    have hpos := putB_pos p hp
    have e : encB (p :: t) ++ r = putB p ++ (encB t ++ r) := by rw [encB, List.append_assoc]
    rw [e] at hf ⊢
    have hnv : nextV (putB p ++ (encB t ++ r)) = (p, (putB p).length, 0) := nextV_put p _ hp (by rw [List.take_left])
    rw [List.length_append] at hf
    obtain ⟨f, rfl⟩ : ∃ g, f = g + 1 := ⟨f - 1, by omega⟩
    rw [dec_step f _ (by rw [List.length_append]; omega) (by rw [hnv]), hnv]
    simp only
    rw [List.drop_left, dec_enc t r f ht (by omega), joinD_joinD]
    simp [encB]
/-- What is valid is points' bytes. -/
theorem dec_sound (l : List Int) (hby : Bytes l) : ∀ f, l.length ≤ f → (dec f l).2 = none → l = encB (dec f l).1 ∧ allPt (dec f l).1 := by
  generalize hn : l.length = n
  induction n using Nat.strongRecOn generalizing l with
  | _ n ih =>
    intro f hf hd
    rcases Nat.eq_zero_or_pos n with h0 | h0
    · have hl : l = [] := List.eq_nil_of_length_eq_zero (by omega)
      subst hl
      cases f <;> simp [dec, encB, allPt]
    · obtain ⟨f, rfl⟩ : ∃ g, f = g + 1 := ⟨f - 1, by omega⟩
      by_cases he : (nextV l).2.2 = 0
      · have h1 := nextV_len l
        have h2 := h1.2.1 he
        have hdl : (l.drop (nextV l).2.1).length = l.length - (nextV l).2.1 := List.length_drop
        rw [dec_step f l (by omega) he] at hd ⊢
        simp only [joinD, Option.map_eq_none_iff] at hd
        obtain ⟨h3, h4⟩ := ih _ (by omega) (l.drop (nextV l).2.1) (hby.drop _) rfl f (by omega) hd
        obtain ⟨h5, h6, _⟩ := nextV_ok l hby he
        refine ⟨?_, ?_⟩
        · show l = encB ([(nextV l).1] ++ (dec f (l.drop (nextV l).2.1)).1)
          rw [encB_append, ← h3]
          show l = (putB (nextV l).1 ++ []) ++ _
          rw [List.append_nil, ← h6, List.take_append_drop]
        · exact allPt_append (fun q hq => by simp at hq; rw [hq]; exact h5) h4
      · rw [dec, if_neg (by omega), if_neg he] at hd; simp at hd
theorem vld_iff (l : List Int) (hby : Bytes l) : vldV l = true ↔ ∃ ps, allPt ps ∧ l = encB ps := by
  constructor
  · intro h
    have h1 : (dec l.length l).2 = none := by simpa [vldV] using h
    obtain ⟨h2, h3⟩ := dec_sound l hby _ (Nat.le_refl _) h1
    exact ⟨_, h3, h2⟩
  · rintro ⟨ps, h, rfl⟩
    have h1 := dec_enc ps [] (encB ps).length h (by simp)
    rw [List.append_nil] at h1
    simp [vldV, h1, joinD, dec]
theorem pts_enc (ps : List Int) (h : allPt ps) : ptsV (encB ps) = (ps, 0, 0) := by
  have h1 := dec_enc ps [] (encB ps).length h (by simp)
  rw [List.append_nil] at h1
  simp [ptsV, h1, joinD, dec]
theorem txt_enc : ∀ ps : List Int, allPt ps → txt ps = (encB ps, none)
  | [], _ => rfl
  | p :: t, h => by
    obtain ⟨hp, ht⟩ := allPt_cons h
    rw [txt, if_pos hp, txt_enc t ht]; rfl
theorem txt_ok : ∀ l : List Int, (txt l).2 = none → allPt l
  | [], _ => fun x hx => by cases hx
  | p :: t, h => by
    by_cases hp : isPt p = true
    · rw [txt, if_pos hp] at h
      simp only [Option.map_eq_none_iff] at h
      have := txt_ok t h
      intro q hq
      rcases List.mem_cons.1 hq with e | e
      · rw [e]; exact hp
      · exact this q e
    · rw [txt, if_neg hp] at h; simp at h
theorem txtV_code (l : List Int) : ((txtV l).2.2 = 0 ∧ allPt l ∧ txtV l = (encB l, 0, 0)) ∨ (txtV l).2.2 = 20 := by
  rcases h : (txt l).2 with _ | n
  · have h1 := txt_ok l h
    left
    have h2 : txtV l = (encB l, 0, 0) := by simp [txtV, txt_enc l h1]
    exact ⟨by rw [h2], h1, h2⟩
  · right
    simp [txtV, h]
theorem ptsV_valid (l : List Int) (hby : Bytes l) (h : vldV l = true) : ∃ ps, allPt ps ∧ l = encB ps ∧ ptsV l = (ps, 0, 0) := by
  obtain ⟨ps, h1, rfl⟩ := (vld_iff l hby).1 h
  exact ⟨ps, h1, rfl, pts_enc ps h1⟩
/-- Two texts, the first of them valid. -/
theorem pts_join (a b : List Int) (ha : Bytes a) (hv : vldV a = true) : ptsV (a ++ b) = if vldV b = true then ((ptsV a).1 ++ (ptsV b).1, 0, 0) else ([], (ptsV b).2.1 + a.length, 20) := by
  obtain ⟨ps, h1, rfl, h3⟩ := ptsV_valid a ha hv
  have h4 := dec_enc ps b (encB ps ++ b).length h1 (Nat.le_refl _)
  rw [h3]
  rcases h5 : (dec b.length b).2 with _ | n
  · have h6 : vldV b = true := by simp [vldV, h5]
    rw [if_pos h6]
    unfold ptsV
    rw [h4]
    simp [joinD, h5]
  · have h6 : ¬ vldV b = true := by simp [vldV, h5]
    rw [if_neg h6]
    unfold ptsV
    rw [h4]
    simp [joinD, h5]
end Go.Proofs.Ytpbgpbblbohmgaa
