/- Texts and their points: the plain laws (there and back, joins, cuts). -/
import Derived.Test.YtgplfamdeifmjaaUtfAlive
namespace Go.Proofs.Ytgplfamdeifmjaa
open Go.RowKit Go.Proofs.YtgplfamdeifmjaaW.PrintWords

/-- Points' bytes, one behind the other. -/
def encB : List Int → List Int
  | [] => []
  | p :: t => putB p ++ encB t
def allPt (l : List Int) : Prop := ∀ p ∈ l, isPt p = true
theorem encB_append : ∀ a b : List Int, encB (a ++ b) = encB a ++ encB b
  | [], _ => rfl
  | p :: t, b => by rw [List.cons_append, encB, encB, encB_append t b, List.append_assoc]
theorem encB_bytes : ∀ l : List Int, Bytes (encB l)
  | [] => fun x hx => by cases hx
  | p :: t => (putB_bytes p).append (encB_bytes t)
theorem allPt_cons {p : Int} {t : List Int} (h : allPt (p :: t)) : isPt p = true ∧ allPt t := ⟨h p List.mem_cons_self, fun q hq => h q (List.mem_cons_of_mem _ hq)⟩
theorem allPt_append {a b : List Int} (h : allPt a) (k : allPt b) : allPt (a ++ b) := fun x hx => (List.mem_append.1 hx).elim (h x) (k x)

/-- More rounds than bytes tell nothing more. -/
theorem dec_fuel (l : List Int) : ∀ f, l.length ≤ f → dec f l = dec l.length l := by
  generalize hn : l.length = n
  induction n using Nat.strongRecOn generalizing l with
  | _ n ih =>
    intro f hf
    rcases Nat.eq_zero_or_pos n with h0 | h0
    · subst h0
      cases f with
      | zero => rfl
      | succ f => simp [dec, hn]
    · obtain ⟨f, rfl⟩ : ∃ g, f = g + 1 := ⟨f - 1, by omega⟩
      obtain ⟨n, rfl⟩ : ∃ g, n = g + 1 := ⟨n - 1, by omega⟩
      by_cases he : (nextV l).2.2 = 0
      · have h1 := nextV_len l
        have h2 := h1.2.1 he
        have hd : (l.drop (nextV l).2.1).length = l.length - (nextV l).2.1 := List.length_drop
        rw [dec_step f l (by omega) he, dec_step n l (by omega) he]
        rw [ih _ (by omega) (l.drop (nextV l).2.1) rfl f (by omega), ih _ (by omega) (l.drop (nextV l).2.1) rfl n (by omega)]
      · rw [dec, if_neg (by omega), if_neg he, dec, if_neg (by omega), if_neg he]
/-- Points' bytes, and a text behind them. -/
theorem dec_enc : ∀ (ps r : List Int) (f : Nat), allPt ps → (encB ps ++ r).length ≤ f → dec f (encB ps ++ r) = joinD ps (encB ps).length (dec r.length r)
  | [], r, f, _, hf => by
    have : encB [] ++ r = r := rfl
    rw [this] at hf ⊢
    rw [dec_fuel r f hf]
    simp [joinD, encB]
  | p :: t, r, f, h, hf => by
    obtain ⟨hp, ht⟩ := allPt_cons h
    have hpos := putB_pos p hp
    have e : encB (p :: t) ++ r = putB p ++ (encB t ++ r) := by rw [encB, List.append_assoc]
    rw [e] at hf ⊢
    have hnv : nextV (putB p ++ (encB t ++ r)) = (p, (putB p).length, 0) := nextV_put p _ hp (by rw [List.take_left])
    rw [List.length_append] at hf
    obtain ⟨f, rfl⟩ : ∃ g, f = g + 1 := ⟨f - 1, by omega⟩
    rw [dec_step f _ (by rw [List.length_append]; omega) (by rw [hnv]), hnv]
    simp only
    rw [List.drop_left, dec_enc t r f ht (by omega), joinD_joinD]
    simp [encB]
/-- What is valid is points' bytes. -/
theorem dec_sound (l : List Int) (hby : Bytes l) : ∀ f, l.length ≤ f → (dec f l).2 = none → l = encB (dec f l).1 ∧ allPt (dec f l).1 := by
  generalize hn : l.length = n
  induction n using Nat.strongRecOn generalizing l with
  | _ n ih =>
    intro f hf hd
    rcases Nat.eq_zero_or_pos n with h0 | h0
    · have hl : l = [] := List.eq_nil_of_length_eq_zero (by omega)
      subst hl
      cases f <;> simp [dec, encB, allPt]
    · obtain ⟨f, rfl⟩ : ∃ g, f = g + 1 := ⟨f - 1, by omega⟩
      by_cases he : (nextV l).2.2 = 0
      · have h1 := nextV_len l
        have h2 := h1.2.1 he
        have hdl : (l.drop (nextV l).2.1).length = l.length - (nextV l).2.1 := List.length_drop
        rw [dec_step f l (by omega) he] at hd ⊢
        simp only [joinD, Option.map_eq_none_iff] at hd
        obtain ⟨h3, h4⟩ := ih _ (by omega) (l.drop (nextV l).2.1) (hby.drop _) rfl f (by omega) hd
        obtain ⟨h5, h6, _⟩ := nextV_ok l hby he
        refine ⟨?_, ?_⟩
        · show l = encB ([(nextV l).1] ++ (dec f (l.drop (nextV l).2.1)).1)
          rw [encB_append, ← h3]
          show l = (putB (nextV l).1 ++ []) ++ _
          rw [List.append_nil, ← h6, List.take_append_drop]
        · exact allPt_append (fun q hq => by simp at hq; rw [hq]; exact h5) h4
      · rw [dec, if_neg (by omega), if_neg he] at hd; simp at hd
theorem vld_iff (l : List Int) (hby : Bytes l) : vldV l = true ↔ ∃ ps, allPt ps ∧ l = encB ps := by
  constructor
  · intro h
    have h1 : (dec l.length l).2 = none := by simpa [vldV] using h
    obtain ⟨h2, h3⟩ := dec_sound l hby _ (Nat.le_refl _) h1
    exact ⟨_, h3, h2⟩
  · rintro ⟨ps, h, rfl⟩
    have h1 := dec_enc ps [] (encB ps).length h (by simp)
    rw [List.append_nil] at h1
    simp [vldV, h1, joinD, dec]
theorem pts_enc (ps : List Int) (h : allPt ps) : ptsV (encB ps) = (ps, 0, 0) := by
  have h1 := dec_enc ps [] (encB ps).length h (by simp)
  rw [List.append_nil] at h1
  simp [ptsV, h1, joinD, dec]
theorem txt_enc : ∀ ps : List Int, allPt ps → txt ps = (encB ps, none)
  | [], _ => rfl
  | p :: t, h => by
    obtain ⟨hp, ht⟩ := allPt_cons h
    rw [txt, if_pos hp, txt_enc t ht]; rfl
theorem txt_ok : ∀ l : List Int, (txt l).2 = none → allPt l
  | [], _ => fun x hx => by cases hx
  | p :: t, h => by
    by_cases hp : isPt p = true
    · rw [txt, if_pos hp] at h
      simp only [Option.map_eq_none_iff] at h
      have := txt_ok t h
      intro q hq
      rcases List.mem_cons.1 hq with e | e
      · rw [e]; exact hp
      · exact this q e
    · rw [txt, if_neg hp] at h; simp at h
theorem txtV_code (l : List Int) : ((txtV l).2.2 = 0 ∧ allPt l ∧ txtV l = (encB l, 0, 0)) ∨ (txtV l).2.2 = 20 := by
  rcases h : (txt l).2 with _ | n
  · have h1 := txt_ok l h
    left
    have h2 : txtV l = (encB l, 0, 0) := by simp [txtV, txt_enc l h1]
    exact ⟨by rw [h2], h1, h2⟩
  · right
    simp [txtV, h]
theorem ptsV_valid (l : List Int) (hby : Bytes l) (h : vldV l = true) : ∃ ps, allPt ps ∧ l = encB ps ∧ ptsV l = (ps, 0, 0) := by
  obtain ⟨ps, h1, rfl⟩ := (vld_iff l hby).1 h
  exact ⟨ps, h1, rfl, pts_enc ps h1⟩
/-- Two texts, the first of them valid. -/
theorem pts_join (a b : List Int) (ha : Bytes a) (hv : vldV a = true) : ptsV (a ++ b) = if vldV b = true then ((ptsV a).1 ++ (ptsV b).1, 0, 0) else ([], (ptsV b).2.1 + a.length, 20) := by
  obtain ⟨ps, h1, rfl, h3⟩ := ptsV_valid a ha hv
  have h4 := dec_enc ps b (encB ps ++ b).length h1 (Nat.le_refl _)
  rw [h3]
  rcases h5 : (dec b.length b).2 with _ | n
  · have h6 : vldV b = true := by simp [vldV, h5]
    rw [if_pos h6]
    unfold ptsV
    rw [h4]
    simp [joinD, h5]
  · have h6 : ¬ vldV b = true := by simp [vldV, h5]
    rw [if_neg h6]
    unfold ptsV
    rw [h4]
    simp [joinD, h5]
theorem rd_append_right (a b : List Int) (j : Nat) : rd (a ++ b) ((a.length + j : Nat) : Int) = rd b (j : Int) := by
  simp only [rd, Int.toNat_natCast, List.getD_eq_getElem?_getD]
  rw [List.getElem?_append_right (by omega)]
  congr 2; omega
theorem rd_append_left (a b : List Int) (j : Nat) (h : j < a.length) : rd (a ++ b) (j : Int) = rd a (j : Int) := by
  simp only [rd, Int.toNat_natCast, List.getD_eq_getElem?_getD]
  rw [List.getElem?_append_left h]
/-- Where a valid text is cut: between two points, and no more than three bytes are given away. -/
theorem cut_split : ∀ (qs ps : List Int) (m : Nat), allPt ps → allPt qs → (encB ps).length ≤ m → m ≤ (encB (ps ++ qs)).length →
    ∃ a b, ps ++ qs = a ++ b ∧ back (encB (ps ++ qs)) m = (encB a).length ∧ (encB a).length ≤ m ∧ m ≤ (encB a).length + 3
  | [], ps, m, _, _, h1, h2 => by
    rw [List.append_nil] at h2 ⊢
    have e : m = (encB ps).length := by omega
    refine ⟨ps, [], by simp, ?_, by omega, by omega⟩
    rw [e]
    exact back_eq _ _ _ (Nat.le_refl _) (fun j h3 h4 => by omega) (.inr fun h => by omega)
  | q :: t, ps, m, hp, hq, h1, h2 => by
    obtain ⟨hq1, ht⟩ := allPt_cons hq
    have e : ps ++ q :: t = (ps ++ [q]) ++ t := by simp
    have el : (encB (ps ++ [q])).length = (encB ps).length + (putB q).length := by rw [encB_append, List.length_append]; simp [encB]
    by_cases hle : (encB ps).length + (putB q).length ≤ m
    · rw [e] at h2 ⊢
      exact cut_split t (ps ++ [q]) m (allPt_append hp (fun x hx => by simp at hx; rw [hx]; exact hq1)) ht (by rw [el]; exact hle) h2
    · refine ⟨ps, q :: t, rfl, ?_, h1, ?_⟩
      · have e2 : encB (ps ++ q :: t) = encB ps ++ (putB q ++ encB t) := by rw [encB_append]; rfl
        have hpos := putB_pos q hq1
        have hl2 : (encB (ps ++ q :: t)).length = (encB ps).length + ((putB q).length + (encB t).length) := by rw [e2]; simp
        refine back_eq _ _ _ h1 (fun j h3 h4 => ⟨by omega, ?_⟩) (.inr fun h => ?_)
        · have h5 := putB_cont q hq1 (j - (encB ps).length) (by omega) (by omega)
          rw [← rd_append_left (putB q) (encB t) _ (by omega), ← rd_append_right (encB ps) (putB q ++ encB t), ← e2] at h5
          rwa [show (encB ps).length + (j - (encB ps).length) = j by omega] at h5
        · have h5 := putB_first q hq1
          rw [show (0 : Int) = ((0 : Nat) : Int) from rfl, ← rd_append_left (putB q) (encB t) 0 (by omega), ← rd_append_right (encB ps) (putB q ++ encB t), ← e2, Nat.add_zero] at h5
          exact h5 h.2
      · have := putB_len q; omega
theorem encB_length_take (a b : List Int) : (encB (a ++ b)).take (encB a).length = encB a ∧ (encB (a ++ b)).drop (encB a).length = encB b := by
  rw [encB_append]; exact ⟨List.take_left, List.drop_left⟩
/-- What Cut gives: both halves are valid, and no more than three bytes are given away. -/
theorem cut_law (l : List Int) (m : Int) (hby : Bytes l) (hv : vldV l = true) : ∃ n : Nat, cutV l m = n ∧ n ≤ l.length ∧ (0 ≤ m → (n : Int) ≤ m) ∧ (m < 0 → n = 0) ∧ vldV (l.take n) = true ∧ vldV (l.drop n) = true ∧
    (0 ≤ m → m < l.length → m - n ≤ 3) ∧ ((l.length : Int) ≤ m → n = l.length) := by
  obtain ⟨ps, h1, rfl⟩ := (vld_iff l hby).1 hv
  have hb : cutV (encB ps) m = ((back (encB ps) (mx (mn m (encB ps).length) 0).toNat : Nat) : Int) := by unfold cutV; rw [if_pos hv]
  have hk : (mx (mn m (encB ps).length) 0).toNat ≤ (encB ps).length := by
    by_cases c1 : m < 0
    · rw [clamp_lo m _ c1]; simp
    · by_cases c2 : m < (encB ps).length
      · rw [clamp_mid m _ (by omega) c2]; omega
      · rw [clamp_hi m _ (by omega)]; omega
  obtain ⟨a, b, h2, h3, h4, h5⟩ := cut_split ps [] (mx (mn m (encB ps).length) 0).toNat (fun x hx => by cases hx) h1 (Nat.zero_le _) (by simpa using hk)
  rw [List.nil_append] at h2 h3
  subst h2
  have ha : allPt a := fun x hx => h1 x (List.mem_append_left _ hx)
  have hbp : allPt b := fun x hx => h1 x (List.mem_append_right _ hx)
  obtain ⟨h6, h7⟩ := encB_length_take a b
  refine ⟨(encB a).length, by rw [hb, h3], by omega, fun c1 => ?_, fun c1 => ?_, ?_, ?_, fun c1 c2 => ?_, fun c1 => ?_⟩
  · by_cases c2 : m < (encB (a ++ b)).length
    · rw [clamp_mid m _ (by omega) c2] at h4; omega
    · omega
  · rw [clamp_lo m _ c1] at h4; simp at h4; simp [h4]
  · rw [h6]; exact (vld_iff _ (encB_bytes a)).2 ⟨a, ha, rfl⟩
  · rw [h7]; exact (vld_iff _ (encB_bytes b)).2 ⟨b, hbp, rfl⟩
  · rw [clamp_mid m _ c1 c2] at h5; omega
  · rw [clamp_hi m _ c1] at h3
    have h8 : back (encB (a ++ b)) (encB (a ++ b)).length = (encB (a ++ b)).length := back_eq _ _ _ (Nat.le_refl _) (fun j h8 h9 => by omega) (.inr fun h => by omega)
    simp only [Int.toNat_natCast] at h3
    omega
end Go.Proofs.Ytgplfamdeifmjaa
