/- The sets of signs, in plain terms: what is read, written again; bytes below 128; a set's name. -/
import Derived.Test.YtpbgpbblbohmgaaChP1
namespace Go.Proofs.Ytpbgpbblbohmgaa
open Go.RowKit Go.Proofs.YtpbgpbblbohmgaaW.PrintWords

def chk (f : Int) : Bool := (List.range 256).all fun c => decide (pointV f (c : Int) < 0) || (byteV f (pointV f (c : Int)) == (c : Int) && isPt (pointV f (c : Int)))
theorem chk1 : chk 1 = true := by decide +kernel
theorem chk3 : chk 3 = true := by decide +kernel
theorem chk4 : chk 4 = true := by decide +kernel
theorem chk5 : chk 5 = true := by decide +kernel
theorem chk_single {f : Int} (hf : Single f) : chk f = true := by
  rcases hf with rfl | rfl | rfl | rfl
  · exact chk1
  · exact chk3
  · exact chk4
  · exact chk5
theorem point_back {f c : Int} (hf : Single f) (h0 : 0 ≤ c) (h1 : c ≤ 255) (hp : ¬ pointV f c < 0) : byteV f (pointV f c) = c ∧ isPt (pointV f c) = true := by
  have h := List.all_eq_true.1 (chk_single hf) c.toNat (List.mem_range.2 (by omega))
  have e : ((c.toNat : Nat) : Int) = c := by omega
  rw [e] at h
  simp only [Bool.or_eq_true, decide_eq_true_eq, Bool.and_eq_true, beq_iff_eq] at h
  rcases h with h | h
  · exact absurd h hp
  · exact h
theorem sgl_dec {f : Int} (hf : Single f) : ∀ l, Bytes l → (sgl f l).2 = none → allPt (sgl f l).1 ∧ encF f (sgl f l).1 = (l, none)
  | [], _, _ => ⟨fun x hx => (List.not_mem_nil hx).elim, rfl⟩
  | c :: t, hby, h => by
    have hc := hby c List.mem_cons_self
    have ht : Bytes t := fun x hx => hby x (List.mem_cons_of_mem _ hx)
    rw [sgl] at h ⊢
    by_cases hp : pointV f c < 0
    · rw [if_pos hp] at h; cases h
    · rw [if_neg hp] at h ⊢
      obtain ⟨ih1, ih2⟩ := sgl_dec hf t ht (by simpa using h)
      obtain ⟨h1, h2⟩ := point_back hf hc.1 hc.2 hp
      refine ⟨fun x hx => ?_, ?_⟩
      · rcases List.mem_cons.1 hx with rfl | hx
        · exact h2
        · exact ih1 x hx
      · have hw : writeV f (pointV f c) = some [c] := by rw [writeV_single hf, h1, if_neg (by omega)]
        show encF f (pointV f c :: (sgl f t).1) = _
        rw [encF_some hw, ih2]; rfl
theorem take2 {l : List Int} (h : 2 ≤ l.length) : l = [rd l 0, rd l 1] ++ l.drop 2 := by
  rcases l with _ | ⟨a, _ | ⟨b, t⟩⟩
  · simp at h
  · simp at h
  · rfl
theorem put2_unit {l : List Int} (hby : Bytes l) (b : Bool) (h : 2 ≤ l.length) : put2 (unitV l b) b ++ l.drop 2 = l := by
  have h0 := hby.rd 0
  have h1 := hby.rd 1
  simp only [Int.natCast_zero, Int.natCast_one] at h0 h1
  conv => rhs; rw [take2 h]
  congr 1
  cases b
  · show [(rd l 0 * 256 + rd l 1) / 256, (rd l 0 * 256 + rd l 1) % 256] = _
    rw [show (rd l 0 * 256 + rd l 1) / 256 = rd l 0 by omega, show (rd l 0 * 256 + rd l 1) % 256 = rd l 1 by omega]
  · show [(rd l 1 * 256 + rd l 0) % 256, (rd l 1 * 256 + rd l 0) / 256] = _
    rw [show (rd l 1 * 256 + rd l 0) / 256 = rd l 1 by omega, show (rd l 1 * 256 + rd l 0) % 256 = rd l 0 by omega]
theorem dbl_dec {f : Int} (hf : Wide f) : ∀ k l, Bytes l → l.length ≤ k → (dbl (f == 8) k l).2 = none → allPt (dbl (f == 8) k l).1 ∧ encF f (dbl (f == 8) k l).1 = (l, none)
  | 0, l, _, hk, _ => by
    obtain rfl : l = [] := List.eq_nil_of_length_eq_zero (by omega)
    exact ⟨fun x hx => (List.not_mem_nil hx).elim, rfl⟩
  | k + 1, l, hby, hk, h => by
    have hu := unitV_range hby (f == 8)
    rw [dbl_step] at h ⊢
    by_cases c0 : l.length = 0
    · obtain rfl : l = [] := List.eq_nil_of_length_eq_zero c0
      exact ⟨fun x hx => by simp at hx, by simp [encF]⟩
    · rw [if_neg c0] at h ⊢
      by_cases c1 : l.length < 2
      · rw [if_pos c1] at h; cases h
      · rw [if_neg c1] at h ⊢
        by_cases c2 : unitV l (f == 8) < 55296 ∨ 57343 < unitV l (f == 8)
        · rw [if_pos c2] at h ⊢
          obtain ⟨ih1, ih2⟩ := dbl_dec hf k (l.drop 2) (hby.drop 2) (by rw [List.length_drop]; omega) (by simpa [joinD] using h)
          refine ⟨fun x hx => ?_, ?_⟩
          · rcases List.mem_append.1 hx with hx | hx
            · rw [List.mem_singleton] at hx; subst hx
              exact (isPt_iff _).2 ⟨hu.1, by omega, c2⟩
            · exact ih1 x hx
          · have hw : writeV f (unitV l (f == 8)) = some (put2 (unitV l (f == 8)) (f == 8)) := by rw [writeV_wide hf, if_pos (by omega)]
            show encF f (unitV l (f == 8) :: (dbl (f == 8) k (l.drop 2)).1) = _
            rw [encF_some hw, ih2]
            show (put2 (unitV l (f == 8)) (f == 8) ++ l.drop 2, _) = _
            rw [put2_unit hby _ (by omega)]; rfl
        · rw [if_neg c2] at h ⊢
          by_cases c3 : 56320 ≤ unitV l (f == 8) ∨ l.length < 4
          · rw [if_pos c3] at h; cases h
          · rw [if_neg c3] at h ⊢
            have hv := unitV_range (hby.drop 2) (f == 8)
            by_cases c4 : unitV (l.drop 2) (f == 8) < 56320 ∨ 57343 < unitV (l.drop 2) (f == 8)
            · rw [if_pos c4] at h; cases h
            · rw [if_neg c4] at h ⊢
              obtain ⟨ih1, ih2⟩ := dbl_dec hf k (l.drop 4) (hby.drop 4) (by rw [List.length_drop]; omega) (by simpa [joinD] using h)
              have e1 := put2_unit hby (f == 8) (by omega)
              have e2 := put2_unit (hby.drop 2) (f == 8) (by rw [List.length_drop]; omega)
              rw [List.drop_drop] at e2
              generalize unitV l (f == 8) = u at *
              generalize unitV (l.drop 2) (f == 8) = v at *
              refine ⟨fun x hx => ?_, ?_⟩
              · rcases List.mem_append.1 hx with hx | hx
                · rw [List.mem_singleton] at hx; subst hx
                  exact (isPt_iff _).2 ⟨by omega, by omega, .inr (by omega)⟩
                · exact ih1 x hx
              · have hw : writeV f (65536 + (u - 55296) * 1024 + (v - 56320)) = some (put2 u (f == 8) ++ put2 v (f == 8)) := by
                  rw [writeV_wide hf, if_neg (by omega)]
                  rw [show 55296 + (65536 + (u - 55296) * 1024 + (v - 56320) - 65536) / 1024 = u by omega, show 56320 + (65536 + (u - 55296) * 1024 + (v - 56320) - 65536) % 1024 = v by omega]
                show encF f ((65536 + (u - 55296) * 1024 + (v - 56320)) :: (dbl (f == 8) k (l.drop 4)).1) = _
                rw [encF_some hw, ih2]
                show ((put2 u (f == 8) ++ put2 v (f == 8)) ++ l.drop 4, _) = _
                rw [List.append_assoc, e2, e1]; rfl
theorem resV_ok {d : List Int × Option Nat} (h : (resV d).2.2 = 0) : d.2 = none ∧ resV d = (d.1, 0, 0) := by
  rcases d with ⟨xs, _ | n⟩
  · exact ⟨rfl, rfl⟩
  · simp [resV] at h
theorem shiftR_ok {r : List Int × Int × Int} {m : Int} (h : (shiftR r m).2.2 = 0) : r.2.2 = 0 := by
  unfold shiftR at h
  split at h
  · assumption
  · exact h
/-- What is read can be written, and is (but in utf-16) the bytes that were read. -/
theorem points_dec {f : Int} (hf : Single f ∨ f = 2 ∨ Wide f) (l : List Int) (hby : Bytes l) (h : (pointsV f l).2.2 = 0) :
    ∃ ps, pointsV f l = (ps, 0, 0) ∧ allPt ps ∧ (encF f ps).2 = none ∧ (f ≠ 6 → bomV f ++ (encF f ps).1 = l) := by
  rcases hf with hf | rfl | hf
  · have e : pointsV f l = resV (sgl f l) := by
      unfold pointsV
      rcases hf with rfl | rfl | rfl | rfl <;> rfl
    have e2 : bomV f = [] := by rcases hf with rfl | rfl | rfl | rfl <;> rfl
    rw [e] at h ⊢
    obtain ⟨h1, h2⟩ := resV_ok h
    obtain ⟨h3, h4⟩ := sgl_dec hf l hby h1
    exact ⟨_, h2, h3, by rw [h4], fun _ => by rw [h4, e2]; rfl⟩
  · rcases pts_cases l hby with ⟨ps, hp, hl, hv⟩ | h2
    · refine ⟨ps, hv, hp, by rw [encF_utf], fun _ => ?_⟩
      rw [encF_utf, hl]; rfl
    · have e : pointsV 2 l = ptsV l := rfl
      rw [e, h2] at h; exact absurd h (by decide)
  · rcases hf with rfl | rfl | rfl
    · have e : pointsV 6 l = resV (markV l) := rfl
      rw [e] at h ⊢
      obtain ⟨h1, h2⟩ := resV_ok h
      refine ⟨_, h2, ?_, ?_, fun h => absurd rfl h⟩
      all_goals
        have hall : allPt (markV l).1 := by
          unfold markV at h1 ⊢
          split
          · rename_i hc
            rw [if_pos hc] at h1
            exact (dbl_dec (f := 6) (.inl rfl) _ _ (hby.drop 2) (Nat.le_refl _) (by simpa [joinD] using h1)).1
          · rename_i hc
            rw [if_neg hc] at h1
            split
            · rename_i hc2
              rw [if_pos hc2] at h1
              exact (dbl_dec (f := 8) (.inr (.inr rfl)) _ _ (hby.drop 2) (Nat.le_refl _) (by simpa [joinD] using h1)).1
            · rename_i hc2
              rw [if_neg hc2] at h1
              exact (dbl_dec (f := 6) (.inl rfl) _ _ hby (Nat.le_refl _) h1).1
      · exact hall
      · exact (dbl_enc (f := 6) (.inl rfl) _ hall).1
    · have e : pointsV 7 l = resV (dbl ((7 : Int) == 8) l.length l) := rfl
      rw [e] at h ⊢
      obtain ⟨h1, h2⟩ := resV_ok h
      obtain ⟨h3, h4⟩ := dbl_dec (f := 7) (.inr (.inl rfl)) _ _ hby (Nat.le_refl _) h1
      exact ⟨_, h2, h3, by rw [h4], fun _ => by rw [h4]; rfl⟩
    · have e : pointsV 8 l = resV (dbl ((8 : Int) == 8) l.length l) := rfl
      rw [e] at h ⊢
      obtain ⟨h1, h2⟩ := resV_ok h
      obtain ⟨h3, h4⟩ := dbl_dec (f := 8) (.inr (.inr rfl)) _ _ hby (Nat.le_refl _) h1
      exact ⟨_, h2, h3, by rw [h4], fun _ => by rw [h4]; rfl⟩
theorem dec_at : ∀ (f : Nat) (l : List Int) (n : Nat), (dec f l).2 = some n → n ≤ l.length
  | 0, l, n, h => by simp [dec] at h
  | f + 1, l, n, h => by
    rw [dec] at h
    have hn := nextV_len l
    split at h
    · cases h
    · split at h
      · simp only [Option.map_eq_some_iff] at h
        obtain ⟨m, hm, rfl⟩ := h
        have := dec_at f _ _ hm
        rw [List.length_drop] at this
        omega
      · injection h with h; omega
theorem sgl_at (f : Int) : ∀ (l : List Int) (n : Nat), (sgl f l).2 = some n → n ≤ l.length
  | [], n, h => by simp [sgl] at h
  | c :: t, n, h => by
    rw [sgl] at h
    split at h
    · injection h with h; simp only [List.length_cons]; omega
    · simp only [Option.map_eq_some_iff] at h
      obtain ⟨m, hm, rfl⟩ := h
      have := sgl_at f t m hm
      simp only [List.length_cons]; omega
theorem markV_at (l : List Int) (n : Nat) (h : (markV l).2 = some n) : n ≤ l.length := by
  unfold markV at h
  split at h
  · simp only [joinD, Option.map_eq_some_iff] at h
    obtain ⟨m, hm, rfl⟩ := h
    have := dbl_at _ _ _ _ hm
    rw [List.length_drop] at this
    omega
  · split at h
    · simp only [joinD, Option.map_eq_some_iff] at h
      obtain ⟨m, hm, rfl⟩ := h
      have := dbl_at _ _ _ _ hm
      rw [List.length_drop] at this
      omega
    · exact dbl_at _ _ _ _ h
theorem pointsV_at (f : Int) (l : List Int) : 0 ≤ (pointsV f l).2.1 ∧ (pointsV f l).2.1 ≤ l.length := by
  unfold pointsV
  repeat' split
  · exact resV_at (dec_at _ _)
  · exact resV_at (markV_at _)
  · exact resV_at (dbl_at _ _ _)
  · exact resV_at (dbl_at _ _ _)
  · exact resV_at (sgl_at _ _)
/-- What Decode tells. -/
theorem decode_cases (s : ByteArray) (l : List Int) (hby : Bytes l) :
    (∃ ps, allPt ps ∧ formV s ≠ 0 ∧ (encF (formV s) ps).2 = none ∧ (formV s ≠ 6 → bomV (formV s) ++ (encF (formV s) ps).1 = l) ∧ decodeV s l = (encB ps, 0, 0) ∧ ps.length ≤ l.length) ∨
    ((decodeV s l).1 = [] ∧ (decodeV s l).2.2 ≠ 0 ∧ 0 ≤ (decodeV s l).2.1 ∧ (decodeV s l).2.1 ≤ l.length) := by
  by_cases hf : formV s = 0
  · right; rw [decodeV, if_pos hf]; exact ⟨rfl, by show (143 : Int) ≠ 0; decide, Int.le_refl _, by show (0 : Int) ≤ _; omega⟩
  · by_cases hc : (pointsV (formV s) l).2.2 = 0
    · obtain ⟨ps, h1, h2, h3, h4⟩ := points_dec (form_set hf) l hby hc
      left
      refine ⟨ps, h2, hf, h3, h4, ?_, ?_⟩
      · rw [decodeV, if_neg hf, h1, if_pos rfl]; exact txtV_enc ps h2
      · have h5 := pointsV_len (formV s) l
        rw [h1] at h5; exact h5
    · right
      have h := pointsV_at (formV s) l
      rw [decodeV, if_neg hf, if_neg hc]
      exact ⟨rfl, hc, h.1, h.2⟩
theorem encode_of {s : ByteArray} {ps : List Int} (hp : allPt ps) (hf : formV s ≠ 0) (he : (encF (formV s) ps).2 = none) : encodeV s (encB ps) = (bomV (formV s) ++ (encF (formV s) ps).1, 0, 0) := by
  rw [encodeV, if_neg hf, pts_enc ps hp, if_pos rfl]
  unfold resE; rw [he]
theorem encB_length : ∀ ps : List Int, (encB ps).length ≤ 4 * ps.length
  | [] => by simp [encB]
  | p :: t => by
    have ih := encB_length t
    have := putB_len p
    show (putB p ++ encB t).length ≤ _
    rw [List.length_append, List.length_cons]; omega
/-- The law CharsetBytes, in plain terms. -/
theorem bytes_plain (s : ByteArray) (l : List Int) (hby : Bytes l) (h : (decodeV s l).2.2 = 0) :
    ∃ x y, decodeV s l = (x, 0, 0) ∧ encodeV s x = (y, 0, 0) ∧ decodeV s y = (x, 0, 0) ∧ vldV x = true ∧ Bytes x ∧ Bytes y ∧ x.length ≤ 4 * l.length ∧ y.length ≤ 16 * l.length + 2 ∧ (formV s ≠ 6 → y = l) := by
  rcases decode_cases s l hby with ⟨ps, hp, hf, he, h4, hv, hl⟩ | ⟨_, h2, _⟩
  · have hx := encB_length ps
    have hb := encB_bytes ps
    have hy := encode_of hp hf he
    have hyl := encodeV_len s (encB ps) hb
    have hyb := encodeV_bytes s (encB ps) hb
    rw [hy] at hyl hyb
    exact ⟨encB ps, _, hv, hy, decode_enc hp hf he, (vld_iff _ hb).2 ⟨ps, hp, rfl⟩, hb, hyb, by omega, by simp only at hyl; omega, h4⟩
  · exact absurd h h2
/-- Bytes below 128. -/
def Asc (l : List Int) : Prop := ∀ x ∈ l, 0 ≤ x ∧ x < 128
theorem point_asc {f c : Int} (hf : Single f) (h : 0 ≤ c ∧ c < 128) : pointV f c = c := by
  rcases hf with rfl | rfl | rfl | rfl
  · unfold pointV; rw [if_neg (by decide), if_neg (by decide), if_neg (by omega)]
  · rfl
  · show euroV c = c
    unfold euroV
    repeat' (rw [if_neg (by omega)])
  · show upV c = c
    unfold upV
    rw [if_pos (by omega)]
theorem isPt_asc {c : Int} (h : 0 ≤ c ∧ c < 128) : isPt c = true := (isPt_iff _).2 ⟨h.1, by omega, .inl (by omega)⟩
theorem allPt_asc {l : List Int} (h : Asc l) : allPt l := fun x hx => isPt_asc (h x hx)
theorem encB_asc : ∀ l, Asc l → encB l = l
  | [], _ => rfl
  | c :: t, h => by
    have hc := h c List.mem_cons_self
    show putB c ++ encB t = _
    rw [encB_asc t (fun x hx => h x (List.mem_cons_of_mem _ hx)), putB_one (isPt_asc hc) hc.2]; rfl
theorem encF_asc {f : Int} (hf : Single f ∨ f = 2) : ∀ l, Asc l → encF f l = (l, none) := by
  rcases hf with hf | rfl
  · intro l
    induction l with
    | nil => intro _; rfl
    | cons c t ih =>
      intro h
      have hc := h c List.mem_cons_self
      have hb := point_back hf hc.1 (by omega) (by rw [point_asc hf hc]; omega)
      rw [point_asc hf hc] at hb
      have hw : writeV f c = some [c] := by rw [writeV_single hf, hb.1, if_neg (by omega)]
      rw [encF_some hw, ih (fun x hx => h x (List.mem_cons_of_mem _ hx))]; rfl
  · intro l h
    rw [encF_utf, encB_asc l h]
theorem ascii_plain (s : ByteArray) (l : List Int) (h : Asc l) (hf : Single (formV s) ∨ formV s = 2) : decodeV s l = (l, 0, 0) ∧ encodeV s l = (l, 0, 0) := by
  have hb : bomV (formV s) = [] := by
    rcases hf with hf | hf
    · rcases hf with hf | hf | hf | hf <;> rw [hf] <;> rfl
    · rw [hf]; rfl
  have h0 : formV s ≠ 0 := by
    rcases hf with hf | hf
    · rcases hf with hf | hf | hf | hf <;> rw [hf] <;> decide
    · rw [hf]; decide
  have he := encF_asc hf l h
  have h1 := decode_enc (s := s) (allPt_asc h) h0 (by rw [he])
  have h2 := encode_of (s := s) (allPt_asc h) h0 (by rw [he])
  rw [he, hb, encB_asc l h] at h1
  rw [he, hb, encB_asc l h] at h2
  exact ⟨h1, h2⟩
/-- A set's name. -/
theorem low_list (s : ByteArray) : (lowS s).toList = U8 (lowL (bytesOf s)) := by unfold lowS; exact sn_toList _
theorem low_eq {s : ByteArray} {xs : List Int} (hx : Bytes xs) (h : (lowS s).toList = U8 xs) : lowL (bytesOf s) = xs := by
  rw [low_list] at h
  exact U8_inj (lowL_bytes (bytesOf_bytes s)) hx h
theorem low_digit {c d : Int} (h : lowC c = d) (hd : d < 65) : c = d := by
  unfold lowC at h
  split at h <;> omega
theorem low_rd {s : ByteArray} {xs : List Int} (h : lowL (bytesOf s) = xs) (i : Nat) (hi : i < xs.length) : lowC (bt s (i : Int)) = rd xs (i : Int) := by
  subst h
  rw [lowL_length] at hi
  rw [← rd_bytesOf, rd_lt _ i hi, rd_lt _ i (by rw [lowL_length]; exact hi)]
  simp [lowL]
theorem low_size {s : ByteArray} {xs : List Int} (h : lowL (bytesOf s) = xs) : s.size = xs.length := by
  rw [← h, lowL_length, bytesOf_length]
theorem form_six {s : ByteArray} (h : formV s = 6) : s.size = 6 ∧ bt s 3 = 45 ∧ bt s 4 = 49 ∧ bt s 5 = 54 := by
  have hl : (lowS s).toList = U8 [117, 116, 102, 45, 49, 54] := by
    unfold formV formL at h
    repeat' split at h
    all_goals first
      | (exact absurd h (by decide))
      | assumption
  have he := low_eq (by intro x hx; simp at hx; omega) hl
  refine ⟨low_size he, ?_, ?_, ?_⟩
  · exact low_digit (low_rd he 3 (by decide)) (by decide)
  · exact low_digit (low_rd he 4 (by decide)) (by decide)
  · exact low_digit (low_rd he 5 (by decide)) (by decide)
theorem form_wide {s : ByteArray} (h : Wide (formV s)) : 6 ≤ s.size ∧ bt s 4 = 49 ∧ bt s 5 = 54 := by
  rcases h with h | h | h
  · obtain ⟨h1, _, h2, h3⟩ := form_six h
    exact ⟨by omega, h2, h3⟩
  · have hl : (lowS s).toList = U8 [117, 116, 102, 45, 49, 54, 98, 101] := by
      unfold formV formL at h
      repeat' split at h
      all_goals first
        | (exact absurd h (by decide))
        | assumption
    have he := low_eq (by intro x hx; simp at hx; omega) hl
    have hz := low_size he
    exact ⟨by rw [hz]; decide, low_digit (low_rd he 4 (by decide)) (by decide), low_digit (low_rd he 5 (by decide)) (by decide)⟩
  · have hl : (lowS s).toList = U8 [117, 116, 102, 45, 49, 54, 108, 101] := by
      unfold formV formL at h
      repeat' split at h
      all_goals first
        | (exact absurd h (by decide))
        | assumption
    have he := low_eq (by intro x hx; simp at hx; omega) hl
    have hz := low_size he
    exact ⟨by rw [hz]; decide, low_digit (low_rd he 4 (by decide)) (by decide), low_digit (low_rd he 5 (by decide)) (by decide)⟩
end Go.Proofs.Ytpbgpbblbohmgaa
