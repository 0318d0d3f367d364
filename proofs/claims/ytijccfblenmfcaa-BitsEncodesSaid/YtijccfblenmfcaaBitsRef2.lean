/- The document's Encode: what its printed function comes to. -/
import Derived.Test.YtijccfblenmfcaaBitsRef
namespace Go.Proofs.Ytijccfblenmfcaa
open Go.RowKit Go.Proofs.YtijccfblenmfcaaW.PrintWords

theorem quad_eq (n : Nat) (v : Int) (h : 1 ≤ n) : quad n v = [sgn (v / 262144 % 64), sgn (v / 4096 % 64), if 2 ≤ n then sgn (v / 64 % 64) else 61, if 3 ≤ n then sgn (v % 64) else 61] := by
  simp only [quad, q4, Nat.zero_le, if_pos h, if_true]
  simp
theorem line_none (m line : Int) (h : line % 4 ≠ 0) (hm : m % 4 = 0) : nlOf m line = [] ∧ lineOf m line = line := by
  unfold nlOf lineOf
  rw [if_neg (by omega), if_neg (by omega)]
  exact ⟨rfl, rfl⟩
theorem line_four (m line : Int) (h : line % 4 = 0) : lineOf m line % 4 = 0 := by unfold lineOf; split <;> omega
open PBitsEncodes in
theorem enc_more (m e : Int) (d acc : List Int) (line v : Int) (r : ByteArray × Int) (hm : m % 4 = 0) (hl : line % 4 ≠ 0) (hb : Bin d) (hd : 0 < d.length) (hl0 : 0 ≤ line) (hl1 : line ≤ 10000000) (ha : acc.length ≤ 100000000) (hv : v6 d = v)
    (h : Ev (fun k => posthornref01_Encode.l0 k m e (d.drop 6) (acc ++ [sgn v]) (line + 1)) r) : Ev (fun k => posthornref01_Encode.l0 k m e d acc line) r := by
  refine enc_sign m e d acc line r hb hd hl0 hl1 ha ?_
  rw [(line_none m line hl hm).1, (line_none m line hl hm).2, List.append_nil, hv]
  exact h
open PBitsEncodes in
theorem enc_pad (m e : Int) (acc : List Int) (line : Int) (r : ByteArray × Int) (hm : m % 4 = 0) (hl : line % 4 ≠ 0) (hl0 : 0 ≤ line) (hl1 : line ≤ 10000000) (ha : acc.length ≤ 100000000)
    (h : Ev (fun k => posthornref01_Encode.l0 k m e [] (acc ++ [61]) (line + 1)) r) : Ev (fun k => posthornref01_Encode.l0 k m e [] acc line) r := by
  have H : Ev (fun k => posthornref01_Encode.j3 k m e [] acc line) r := by
    refine Ev.step (by intro k; rw [posthornref01_Encode.j3]) ?_
    refine Ev.pos rfl ?_
    refine Ev.pos (by omega) ?_
    rw [wrap64_id _ (by omega) (by omega)]
    exact h
  refine Ev.step (by intro k; rw [posthornref01_Encode.l0]) ?_
  refine Ev.neg (by decide) ?_
  rw [tmod_pos line 4 hl0, decide_eq_true (show line % 4 > 0 by omega)]
  refine Ev.step (by intro k; rw [posthornref01_Encode.j1]) ?_
  refine Ev.pos rfl ?_
  by_cases hm0 : m > 0
  · refine Ev.pos hm0 ?_
    rw [beq_eq_false_iff_ne.mpr (show line ≠ m by omega)]
    refine Ev.step (by intro k; rw [posthornref01_Encode.j2]) ?_
    refine Ev.neg (by decide) ?_
    exact H
  · refine Ev.neg hm0 ?_
    refine Ev.step (by intro k; rw [posthornref01_Encode.j2]) ?_
    refine Ev.neg (by decide) ?_
    exact H
open PBitsEncodes in
theorem enc_end (m e : Int) (acc : List Int) (line : Int) (hl : line % 4 = 0) (hl0 : 0 ≤ line) : Ev (fun k => posthornref01_Encode.l0 k m e [] acc line) (strOfNums acc, e) := by
  refine Ev.step (by intro k; rw [posthornref01_Encode.l0]) ?_
  refine Ev.neg (by decide) ?_
  rw [tmod_pos line 4 hl0, decide_eq_false (show ¬ line % 4 > 0 by omega)]
  refine Ev.step (by intro k; rw [posthornref01_Encode.j1]) ?_
  refine Ev.neg (by decide) ?_
  exact Ev.done _
theorem encL_nil (m : Int) (f : Nat) (line : Int) : encL m f [] line = [] := by cases f <;> rfl
theorem encL_cons (m : Int) (f : Nat) (l : List Int) (line : Int) (h : l.length ≠ 0) : encL m (f + 1) l line = nlOf m line ++ quad (min l.length 3) (v3 l) ++ encL m f (l.drop 3) (lineOf m line + 4) := by
  rw [encL, if_neg h]; rfl
open PBitsEncodes in
set_option maxHeartbeats 4000000 in
theorem enc_loop (m e : Int) (hm : m % 4 = 0) (f : Nat) : ∀ (l acc : List Int) (line : Int), l.length ≤ f → Bytes l → 0 ≤ line → line % 4 = 0 → line + 4 * l.length ≤ 9000000 → acc.length + 6 * l.length ≤ 10000000 →
    Ev (fun k => posthornref01_Encode.l0 k m e (digs l) acc line) (strOfNums (acc ++ encL m f l line), e) := by
  induction f with
  | zero =>
    intro l acc line hf hb h0 h4 hl ha
    obtain rfl : l = [] := List.eq_nil_of_length_eq_zero (by omega)
    rw [encL_nil, List.append_nil]
    exact enc_end m e acc line h4 h0
  | succ f ih =>
    intro l acc line hf hb h0 h4 hl ha
    have hln : 0 ≤ lineOf m line ∧ lineOf m line ≤ line := by unfold lineOf; split <;> omega
    have hln4 := line_four m line h4
    have hnl : (nlOf m line).length ≤ 2 := by unfold nlOf; split <;> simp
    have hbin := digs_bin l
    rcases l with _ | ⟨a, _ | ⟨b, _ | ⟨c, t⟩⟩⟩
    · rw [encL_nil, List.append_nil]
      exact enc_end m e acc line h4 h0
    · have ha0 := hb a (by simp)
      rw [encL_cons m f _ line (by simp)]
      simp only [List.length_cons, List.length_nil] at hl ha hf
      rw [show min [a].length 3 = 1 from rfl, quad_eq 1 _ (by omega), show List.drop 3 [a] = [] from rfl, encL_nil]
      have e3 : v3 [a] = a * 65536 := by simp [v3, rd]
      rw [e3, if_neg (by omega), if_neg (by omega)]
      refine enc_sign m e _ acc line _ hbin (by rw [digs_len]; simp) h0 (by omega) (by omega) ?_
      generalize hL : lineOf m line = ln at *
      generalize hN : nlOf m line = nl at *
      rw [show v6 (digs [a]) = a * 65536 / 262144 % 64 by simp [v6, rd, digs, dig8]; omega]
      refine enc_more m e _ _ _ (a * 65536 / 4096 % 64) _ hm (by omega) (hbin.drop 6) (by rw [List.length_drop, digs_len]; simp) (by omega) (by omega) (by simp; omega) (by simp [v6, rd, digs, dig8]; omega) ?_
      rw [List.drop_drop, List.drop_eq_nil_of_le (by rw [digs_len]; simp)]
      refine enc_pad m e _ _ _ hm (by omega) (by omega) (by omega) (by simp; omega) ?_
      refine enc_pad m e _ _ _ hm (by omega) (by omega) (by omega) (by simp; omega) ?_
      have hf := enc_end m e (acc ++ nl ++ [sgn (a * 65536 / 262144 % 64)] ++ [sgn (a * 65536 / 4096 % 64)] ++ [61] ++ [61]) (ln + 1 + 1 + 1 + 1) (by omega) (by omega)
      simpa [List.append_assoc] using hf
    · have ha0 := hb a (by simp)
      have hb0 := hb b (by simp)
      rw [encL_cons m f _ line (by simp)]
      simp only [List.length_cons, List.length_nil] at hl ha hf
      rw [show min [a, b].length 3 = 2 from rfl, quad_eq 2 _ (by omega), show List.drop 3 [a, b] = [] from rfl, encL_nil]
      have e3 : v3 [a, b] = a * 65536 + b * 256 := by simp [v3, rd]
      rw [e3, if_pos (by omega), if_neg (by omega)]
      refine enc_sign m e _ acc line _ hbin (by rw [digs_len]; simp) h0 (by omega) (by omega) ?_
      generalize hL : lineOf m line = ln at *
      generalize hN : nlOf m line = nl at *
      rw [show v6 (digs [a, b]) = (a * 65536 + b * 256) / 262144 % 64 by simp [v6, rd, digs, dig8]; omega]
      refine enc_more m e _ _ _ ((a * 65536 + b * 256) / 4096 % 64) _ hm (by omega) (hbin.drop 6) (by rw [List.length_drop, digs_len]; simp) (by omega) (by omega) (by simp; omega) (by simp [v6, rd, digs, dig8]; omega) ?_
      rw [List.drop_drop]
      refine enc_more m e _ _ _ ((a * 65536 + b * 256) / 64 % 64) _ hm (by omega) (hbin.drop _) (by rw [List.length_drop, digs_len]; simp) (by omega) (by omega) (by simp; omega) (by simp [v6, rd, digs, dig8]; omega) ?_
      rw [List.drop_drop, List.drop_eq_nil_of_le (by rw [digs_len]; simp)]
      refine enc_pad m e _ _ _ hm (by omega) (by omega) (by omega) (by simp; omega) ?_
      have hf := enc_end m e (acc ++ nl ++ [sgn ((a * 65536 + b * 256) / 262144 % 64)] ++ [sgn ((a * 65536 + b * 256) / 4096 % 64)] ++ [sgn ((a * 65536 + b * 256) / 64 % 64)] ++ [61]) (ln + 1 + 1 + 1 + 1) (by omega) (by omega)
      simpa [List.append_assoc] using hf
    · have ha0 := hb a (by simp)
      have hb0 := hb b (by simp)
      have hc0 := hb c (by simp)
      have hbt : Bytes t := fun x hx => hb x (by simp [hx])
      rw [encL_cons m f _ line (by simp)]
      simp only [List.length_cons] at hl ha hf
      rw [show min (a :: b :: c :: t).length 3 = 3 by simp only [List.length_cons]; omega, quad_eq 3 _ (by omega), show List.drop 3 (a :: b :: c :: t) = t from rfl]
      have e3 : v3 (a :: b :: c :: t) = a * 65536 + b * 256 + c := by simp [v3, rd]
      rw [e3, if_pos (by omega), if_pos (by omega)]
      have hlen : (digs (a :: b :: c :: t)).length = 8 * t.length + 24 := by rw [digs_len]; simp only [List.length_cons]; omega
      have hdr : (digs (a :: b :: c :: t)).drop 24 = digs t := rfl
      refine enc_sign m e _ acc line _ hbin (by omega) h0 (by omega) (by omega) ?_
      generalize hL : lineOf m line = ln at *
      generalize hN : nlOf m line = nl at *
      rw [show v6 (digs (a :: b :: c :: t)) = (a * 65536 + b * 256 + c) / 262144 % 64 by simp [v6, rd, digs, dig8]; omega]
      refine enc_more m e _ _ _ ((a * 65536 + b * 256 + c) / 4096 % 64) _ hm (by omega) (hbin.drop 6) (by rw [List.length_drop]; omega) (by omega) (by omega) (by simp; omega) (by simp [v6, rd, digs, dig8]; omega) ?_
      rw [List.drop_drop]
      refine enc_more m e _ _ _ ((a * 65536 + b * 256 + c) / 64 % 64) _ hm (by omega) (hbin.drop _) (by rw [List.length_drop]; omega) (by omega) (by omega) (by simp; omega) (by simp [v6, rd, digs, dig8]; omega) ?_
      rw [List.drop_drop]
      refine enc_more m e _ _ _ ((a * 65536 + b * 256 + c) % 64) _ hm (by omega) (hbin.drop _) (by rw [List.length_drop]; omega) (by omega) (by omega) (by simp; omega) (by simp [v6, rd, digs, dig8]; omega) ?_
      rw [List.drop_drop, hdr]
      have hf := ih t (acc ++ nl ++ [sgn ((a * 65536 + b * 256 + c) / 262144 % 64)] ++ [sgn ((a * 65536 + b * 256 + c) / 4096 % 64)] ++ [sgn ((a * 65536 + b * 256 + c) / 64 % 64)] ++ [sgn ((a * 65536 + b * 256 + c) % 64)]) (ln + 4) (by omega) hbt (by omega) (by omega) (by omega) (by simp; omega)
      rw [show ln + 1 + 1 + 1 + 1 = ln + 4 by omega]
      simpa [List.append_assoc] using hf
open PBitsEncodes in
theorem ref_encode_ok (l : List Int) (m : Int) (hb : Bytes l) (hf : fitsV l.length m = 0) (hm : m % 4 = 0) (hl : l.length ≤ 1048576) :
    Ev (fun k => posthornref01_Encode.f k l m) (strOfNums (encL m l.length l 0), 0) := by
  unfold posthornref01_Encode.f
  refine Ev.bind (may_ev l.length m) ?_
  rw [hf]
  refine Ev.pos rfl ?_
  refine Ev.bind (digits_ev l hl hb) ?_
  have h := enc_loop m 0 hm l.length l [] 0 (Nat.le_refl _) hb (by omega) (by omega) (by omega) (by simp; omega)
  rwa [List.nil_append] at h
open PBitsEncodes in
theorem ref_encode_no (l : List Int) (m c : Int) (hf : fitsV l.length m = c) (hc : c ≠ 0) :
    Ev (fun k => posthornref01_Encode.f k l m) (⟨#[]⟩, c) := by
  unfold posthornref01_Encode.f
  refine Ev.bind (may_ev l.length m) ?_
  rw [hf]
  refine Ev.neg hc ?_
  exact Ev.done _
end Go.Proofs.Ytijccfblenmfcaa
