/- The sets of signs, in plain terms: there and back. -/
import Derived.Test.YtpbgpbblbohmgaaChE4
namespace Go.Proofs.Ytpbgpbblbohmgaa
open Go.RowKit Go.Proofs.YtpbgpbblbohmgaaW.PrintWords

/-- A set of one byte. -/
def Single (f : Int) : Prop := f = 1 ∨ f = 3 ∨ f = 4 ∨ f = 5
theorem form_cases (s : ByteArray) : formV s = 0 ∨ Single (formV s) ∨ formV s = 2 ∨ formV s = 6 ∨ formV s = 7 ∨ formV s = 8 := by
  have h := formL_range (lowS s).toList
  unfold Single
  show formL _ = 0 ∨ (formL _ = 1 ∨ formL _ = 3 ∨ formL _ = 4 ∨ formL _ = 5) ∨ formL _ = 2 ∨ formL _ = 6 ∨ formL _ = 7 ∨ formL _ = 8
  omega
theorem writeV_single {f p : Int} (hf : Single f) : writeV f p = if byteV f p < 0 then none else some [byteV f p] := by
  unfold writeV
  rcases hf with rfl | rfl | rfl | rfl <;> simp
theorem isPt_nonneg {p : Int} (h : isPt p = true) : 0 ≤ p := ((isPt_iff p).1 h).1
theorem sgl_enc {f : Int} (hf : Single f) : ∀ ps, allPt ps → (encF f ps).2 = none → sgl f (encF f ps).1 = (ps, none)
  | [], _, _ => rfl
  | p :: t, hp, h => by
    obtain ⟨hp1, ht⟩ := allPt_cons hp
    rcases hw : writeV f p with _ | bs
    · rw [encF_none hw] at h; cases h
    · rw [encF_some hw] at h ⊢
      have hb := hw
      rw [writeV_single hf] at hb
      by_cases hv : byteV f p < 0
      · rw [if_pos hv] at hb; cases hb
      · rw [if_neg hv] at hb
        injection hb with hb
        subst hb
        have ih := sgl_enc hf t ht (by simpa [joinD] using h)
        have hpv : pointV f (byteV f p) = p := by
          rcases byteV_range f p with h | ⟨_, _, h⟩
          · rw [h] at hv; exact absurd (by decide) hv
          · exact h
        have hp0 := isPt_nonneg hp1
        show sgl f ([byteV f p] ++ (encF f t).1) = _
        rw [List.singleton_append, sgl, hpv, if_neg (by omega), ih]
        rfl
theorem encF_utf : ∀ ps, encF 2 ps = (encB ps, none)
  | [] => rfl
  | p :: t => by
    have hw : writeV 2 p = some (putB p) := by simp [writeV]
    rw [encF_some hw, encF_utf t]; rfl
def Wide (f : Int) : Prop := f = 6 ∨ f = 7 ∨ f = 8
theorem writeV_wide {f p : Int} (hf : Wide f) : writeV f p = some (if p < 65536 then put2 p (f == 8) else put2 (55296 + (p - 65536) / 1024) (f == 8) ++ put2 (56320 + (p - 65536) % 1024) (f == 8)) := by
  unfold writeV
  rw [if_neg (by rcases hf with rfl | rfl | rfl <;> decide), if_pos (show f = 6 ∨ f = 7 ∨ f = 8 from hf)]
theorem unitV_put2 (u : Int) (b : Bool) (r : List Int) (h0 : 0 ≤ u) : unitV (put2 u b ++ r) b = u := by
  cases b
  · simp [unitV, put2, rd]; omega
  · simp [unitV, put2, rd]; omega
theorem put2_drop (u : Int) (b : Bool) (r : List Int) : (put2 u b ++ r).drop 2 = r := by
  cases b <;> rfl
theorem put2_drop4 (u v : Int) (b : Bool) (r : List Int) : ((put2 u b ++ put2 v b) ++ r).drop 4 = r := by
  cases b <;> rfl
theorem put2_mid (u v : Int) (b : Bool) (r : List Int) : ((put2 u b ++ put2 v b) ++ r).drop 2 = put2 v b ++ r := by
  cases b <;> rfl
theorem dbl_enc {f : Int} (hf : Wide f) : ∀ ps, allPt ps → (encF f ps).2 = none ∧ ∀ k, (encF f ps).1.length ≤ k → dbl (f == 8) k (encF f ps).1 = (ps, none)
  | [], _ => ⟨rfl, fun k _ => by cases k <;> simp [encF, dbl]⟩
  | p :: t, hp => by
    obtain ⟨hp1, ht⟩ := allPt_cons hp
    have hb := (isPt_iff p).1 hp1
    obtain ⟨ih1, ih2⟩ := dbl_enc hf t ht
    rw [encF_some (writeV_wide hf)]
    refine ⟨by simp [joinD, ih1], fun k hk => ?_⟩
    by_cases hlt : p < 65536
    · rw [if_pos hlt] at hk ⊢
      simp only [joinD, List.length_append, put2_len] at hk
      obtain ⟨k, rfl⟩ : ∃ j, k = j + 1 := ⟨k - 1, by omega⟩
      show dbl (f == 8) (k + 1) (put2 p (f == 8) ++ (encF f t).1) = _
      rw [dbl_step, unitV_put2 _ _ _ hb.1, put2_drop, if_neg (by rw [List.length_append, put2_len]; omega), if_neg (by rw [List.length_append, put2_len]; omega), if_pos (by omega), ih2 k (by omega)]
      rfl
    · rw [if_neg hlt] at hk ⊢
      simp only [joinD, List.length_append, put2_len] at hk
      obtain ⟨k, rfl⟩ : ∃ j, k = j + 1 := ⟨k - 1, by omega⟩
      show dbl (f == 8) (k + 1) ((put2 (55296 + (p - 65536) / 1024) (f == 8) ++ put2 (56320 + (p - 65536) % 1024) (f == 8)) ++ (encF f t).1) = _
      have hu : unitV ((put2 (55296 + (p - 65536) / 1024) (f == 8) ++ put2 (56320 + (p - 65536) % 1024) (f == 8)) ++ (encF f t).1) (f == 8) = 55296 + (p - 65536) / 1024 := by
        rw [List.append_assoc]; exact unitV_put2 _ _ _ (by omega)
      rw [dbl_step, hu, put2_mid, put2_drop4, unitV_put2 _ _ _ (by omega), if_neg (by simp only [List.length_append, put2_len]; omega), if_neg (by simp only [List.length_append, put2_len]; omega), if_neg (by omega),
        if_neg (by simp only [List.length_append, put2_len]; omega), if_neg (by omega), ih2 k (by omega)]
      simp only [joinD, List.singleton_append, Option.map_none]
      congr 1
      congr 1
      omega
theorem resV_none (ps : List Int) : resV (ps, none) = (ps, 0, 0) := rfl
/-- What is encoded is read as the points that it was. -/
theorem points_enc {f : Int} (hf : Single f ∨ f = 2 ∨ Wide f) (ps : List Int) (hp : allPt ps) (h : (encF f ps).2 = none) : pointsV f (bomV f ++ (encF f ps).1) = (ps, 0, 0) := by
  rcases hf with hf | rfl | hf
  · have hs := sgl_enc hf ps hp h
    have e : bomV f = [] := by rcases hf with rfl | rfl | rfl | rfl <;> rfl
    rw [e, List.nil_append]
    unfold pointsV
    rw [hs]
    rcases hf with rfl | rfl | rfl | rfl <;> rfl
  · have e : bomV 2 = [] := rfl
    rw [e, List.nil_append, encF_utf]
    exact pts_enc ps hp
  · obtain ⟨_, h2⟩ := dbl_enc hf ps hp
    rcases hf with rfl | rfl | rfl
    · have e : bomV 6 = [254, 255] := rfl
      unfold pointsV
      rw [if_neg (by decide), if_pos rfl, e]
      have hu : unitV ([254, 255] ++ (encF 6 ps).1) false = 65279 := rfl
      unfold markV
      rw [if_pos ⟨by simp, hu⟩, resV_join]
      show shiftR (resV (dbl ((6 : Int) == 8) (encF 6 ps).1.length (encF 6 ps).1)) 2 = _
      rw [h2 _ (Nat.le_refl _)]
      rfl
    · have e : bomV 7 = [] := rfl
      rw [e, List.nil_append]
      show resV (dbl ((7 : Int) == 8) (encF 7 ps).1.length (encF 7 ps).1) = _
      rw [h2 _ (Nat.le_refl _)]; rfl
    · have e : bomV 8 = [] := rfl
      rw [e, List.nil_append]
      show resV (dbl ((8 : Int) == 8) (encF 8 ps).1.length (encF 8 ps).1) = _
      rw [h2 _ (Nat.le_refl _)]; rfl
theorem form_set {s : ByteArray} (h : formV s ≠ 0) : Single (formV s) ∨ formV s = 2 ∨ Wide (formV s) := by
  rcases form_cases s with h1 | h1 | h1 | h1 | h1 | h1
  · exact absurd h1 h
  · exact .inl h1
  · exact .inr (.inl h1)
  · exact .inr (.inr (.inl h1))
  · exact .inr (.inr (.inr (.inl h1)))
  · exact .inr (.inr (.inr (.inr h1)))
theorem pts_cases (l : List Int) (hby : Bytes l) : (∃ ps, allPt ps ∧ l = encB ps ∧ ptsV l = (ps, 0, 0)) ∨ (ptsV l).2.2 = 20 := by
  have h := ptsV_code l
  cases hv : vldV l with
  | true => exact .inl (ptsV_valid l hby hv)
  | false => rw [hv] at h; exact .inr h
theorem txtV_enc (ps : List Int) (h : allPt ps) : txtV ps = (encB ps, 0, 0) := by
  unfold txtV; rw [txt_enc ps h]
/-- What Encode tells: of points, or why not. -/
theorem encode_cases (s : ByteArray) (l : List Int) (hby : Bytes l) :
    (∃ ps, allPt ps ∧ l = encB ps ∧ formV s ≠ 0 ∧ (encF (formV s) ps).2 = none ∧ encodeV s l = (bomV (formV s) ++ (encF (formV s) ps).1, 0, 0)) ∨
    ((encodeV s l).1 = [] ∧ (encodeV s l).2.2 ≠ 0 ∧ (formV s ≠ 0 ∨ (encodeV s l).2.2 = 143)) := by
  by_cases hf : formV s = 0
  · right; rw [encodeV, if_pos hf]; exact ⟨rfl, by decide, .inr rfl⟩
  · rcases pts_cases l hby with ⟨ps, hp, hl, hv⟩ | h
    · rcases he : (encF (formV s) ps).2 with _ | n
      · left
        refine ⟨ps, hp, hl, hf, he, ?_⟩
        rw [encodeV, if_neg hf, hv, if_pos rfl]
        unfold resE; rw [he]
      · right
        rw [encodeV, if_neg hf, hv, if_pos rfl]
        unfold resE; rw [he]
        exact ⟨rfl, by show (10 : Int) ≠ 0; decide, .inl hf⟩
    · right
      rw [encodeV, if_neg hf, h, if_neg (by decide)]
      exact ⟨rfl, by show (20 : Int) ≠ 0; decide, .inl hf⟩
theorem decode_enc {s : ByteArray} {ps : List Int} (hp : allPt ps) (hf : formV s ≠ 0) (he : (encF (formV s) ps).2 = none) : decodeV s (bomV (formV s) ++ (encF (formV s) ps).1) = (encB ps, 0, 0) := by
  rw [decodeV, if_neg hf, points_enc (form_set hf) ps hp he, if_pos rfl]
  exact txtV_enc ps hp
/-- The law CharsetBack, in plain terms. -/
theorem back_plain (s : ByteArray) (l : List Int) (hby : Bytes l) (h : (encodeV s l).2.2 = 0) : decodeV s (encodeV s l).1 = (l, 0, 0) := by
  rcases encode_cases s l hby with ⟨ps, hp, hl, hf, he, hv⟩ | ⟨_, h2, _⟩
  · rw [hv, hl]; exact decode_enc hp hf he
  · exact absurd h h2
theorem back_bad (s : ByteArray) (l : List Int) (hby : Bytes l) (h : (encodeV s l).2.2 ≠ 0) : (encodeV s l).1 = [] ∧ (knownV s = true ∨ (encodeV s l).2.2 = 143) := by
  rcases encode_cases s l hby with ⟨ps, _, _, _, _, hv⟩ | ⟨h1, _, h3⟩
  · rw [hv] at h; exact absurd rfl h
  · exact ⟨h1, h3.imp (fun h => by unfold knownV; simpa using h) id⟩
theorem put2_bytes (u : Int) (b : Bool) (h0 : 0 ≤ u) (h1 : u ≤ 65535) : Bytes (put2 u b) := by
  intro x hx
  unfold put2 at hx
  split at hx <;> simp at hx <;> omega
theorem writeV_bytes {f p : Int} {bs : List Int} (hp : isPt p = true) (h : writeV f p = some bs) : Bytes bs := by
  have hb := (isPt_iff p).1 hp
  unfold writeV at h
  by_cases h2 : f = 2
  · rw [if_pos h2] at h; injection h with h; subst h; exact putB_bytes p
  · rw [if_neg h2] at h
    by_cases h6 : f = 6 ∨ f = 7 ∨ f = 8
    · rw [if_pos h6] at h; injection h with h; subst h
      by_cases hlt : p < 65536
      · rw [if_pos hlt]; exact put2_bytes _ _ hb.1 (by omega)
      · rw [if_neg hlt]; exact (put2_bytes _ _ (by omega) (by omega)).append (put2_bytes _ _ (by omega) (by omega))
    · rw [if_neg h6] at h
      by_cases hv : byteV f p < 0
      · rw [if_pos hv] at h; cases h
      · rw [if_neg hv] at h; injection h with h; subst h
        intro x hx
        rw [List.mem_singleton] at hx
        subst hx
        rcases byteV_range f p with h | h
        · rw [h] at hv; exact absurd (by decide) hv
        · omega
theorem encF_bytes (f : Int) : ∀ ps, allPt ps → Bytes (encF f ps).1
  | [], _ => fun x hx => by cases hx
  | p :: t, hp => by
    obtain ⟨hp1, ht⟩ := allPt_cons hp
    rcases hw : writeV f p with _ | bs
    · rw [encF_none hw]; exact fun x hx => by cases hx
    · rw [encF_some hw]; exact (writeV_bytes hp1 hw).append (encF_bytes f t ht)
theorem bomV_bytes (f : Int) : Bytes (bomV f) := by
  intro x hx
  unfold bomV at hx
  split at hx <;> simp at hx
  omega
theorem encodeV_bytes (s : ByteArray) (l : List Int) (hby : Bytes l) : Bytes (encodeV s l).1 := by
  rcases encode_cases s l hby with ⟨ps, hp, _, _, _, hv⟩ | ⟨h, _, _⟩
  · rw [hv]; exact (bomV_bytes _).append (encF_bytes _ ps hp)
  · rw [h]; exact fun x hx => by cases hx
theorem encodeV_len (s : ByteArray) (l : List Int) (hby : Bytes l) : (encodeV s l).1.length ≤ 4 * l.length + 2 := by
  rcases encode_cases s l hby with ⟨ps, hp, hle, _, _, hv⟩ | ⟨h, _, _⟩
  · rw [hv]
    have h3 := encF_len (formV s) ps
    have h4 : (bomV (formV s)).length ≤ 2 := by unfold bomV; split <;> simp
    have h5 : ps.length ≤ l.length := by
      have h := dec_len l.length l
      have e : (ptsV l).1.length ≤ l.length := by rw [ptsV_res]; exact resV_len h
      rw [hle, pts_enc ps hp] at e
      rw [hle]; exact e
    simp only [List.length_append]; omega
  · rw [h]; simp
end Go.Proofs.Ytpbgpbblbohmgaa
