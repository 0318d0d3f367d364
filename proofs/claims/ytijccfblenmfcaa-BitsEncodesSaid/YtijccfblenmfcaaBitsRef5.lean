/- The document's Decode is decV. -/
import Derived.Test.YtijccfblenmfcaaBitsRef4
namespace Go.Proofs.Ytijccfblenmfcaa
open Go.RowKit Go.Proofs.YtijccfblenmfcaaW.PrintWords

/-- The digits that wait. -/
def pend (i : Nat) (v : Int) : List Int := if i % 4 = 0 then [] else if i % 4 = 1 then six v else if i % 4 = 2 then six (v / 64) ++ six (v % 64) else six (v / 4096) ++ six (v / 64 % 64) ++ six (v % 64)
theorem pend_len (i : Nat) (v : Int) : (pend i v).length ≤ 18 := by
  unfold pend
  repeat' split
  all_goals simp [six]
theorem pend_next (i : Nat) (v D : Int) (h : (i + 1) % 4 ≠ 0) (hv : 0 ≤ v) (hD : 0 ≤ D) (hD1 : D ≤ 63) (hb : i % 4 = 0 → v = 0) : pend i v ++ six D = pend (i + 1) (v * 64 + D) := by
  have e1 : (v * 64 + D) / 64 = v := by omega
  have e2 : (v * 64 + D) % 64 = D := by omega
  have e3 : (v * 64 + D) / 4096 = v / 64 := by omega
  unfold pend
  rcases (show i % 4 = 0 ∨ i % 4 = 1 ∨ i % 4 = 2 by omega) with h4 | h4 | h4
  · rw [if_pos h4, if_neg (by omega), if_pos (by omega), hb h4, Int.zero_mul, Int.zero_add, List.nil_append]
  · rw [if_neg (by omega), if_pos h4, if_neg (by omega), if_neg (by omega), if_pos (by omega), e1, e2]
  · rw [if_neg (by omega), if_neg (by omega), if_pos h4, if_neg (by omega), if_neg (by omega), if_neg (by omega), e1, e2, e3]
set_option maxHeartbeats 1000000 in
theorem pend_full (i : Nat) (v D : Int) (h : i % 4 = 3) (hv : 0 ≤ v) (hv1 : v < 262144) (hD : 0 ≤ D) (hD1 : D ≤ 63) : pend i v ++ six D = digs [(v * 64 + D) / 65536, (v * 64 + D) / 256 % 256, (v * 64 + D) % 256] := by
  unfold pend
  rw [if_neg (by omega), if_neg (by omega), if_neg (by omega)]
  simp only [six, dig8, digs, List.flatMap_cons, List.flatMap_nil, List.append_nil, List.cons_append, List.nil_append, List.cons.injEq, and_true]
  repeat' apply And.intro
  all_goals omega
theorem pend_one (i : Nat) (v : Int) (h : i % 4 = 3) (hv : 0 ≤ v) (hv1 : v < 262144) : pend i v = digs [v * 64 / 65536, v * 64 / 256 % 256] ++ [v / 2 % 2, v % 2] := by
  unfold pend
  rw [if_neg (by omega), if_neg (by omega), if_neg (by omega)]
  simp only [six, dig8, digs, List.flatMap_cons, List.flatMap_nil, List.append_nil, List.cons_append, List.nil_append, List.cons.injEq, and_true]
  repeat' apply And.intro
  all_goals omega
theorem pend_two (w : Int) (hv : 0 ≤ w) (hv1 : w < 4096) : six (w / 64) ++ six (w % 64) = digs [w * 4096 / 65536] ++ [w / 8 % 2, w / 4 % 2, w / 2 % 2, w % 2] := by
  simp only [six, dig8, digs, List.flatMap_cons, List.flatMap_nil, List.append_nil, List.cons_append, List.nil_append, List.cons.injEq, and_true]
  repeat' apply And.intro
  all_goals omega
theorem digs_append (a b : List Int) : digs (a ++ b) = digs a ++ digs b := by simp [digs]
theorem any_one (v : Int) (hv : 0 ≤ v) : anyPos [v / 2 % 2, v % 2] = decide (v * 64 % 256 ≠ 0) := by
  simp only [anyPos, List.any_cons, List.any_nil, Bool.or_false]
  rw [Bool.eq_iff_iff]
  simp only [Bool.or_eq_true, decide_eq_true_eq]
  omega
theorem any_two (w : Int) (hv : 0 ≤ w) : anyPos [w / 8 % 2, w / 4 % 2, w / 2 % 2, w % 2] = decide (w * 4096 / 256 % 256 ≠ 0) := by
  simp only [anyPos, List.any_cons, List.any_nil, Bool.or_false]
  rw [Bool.eq_iff_iff]
  simp only [Bool.or_eq_true, decide_eq_true_eq]
  omega
theorem rd_at (o : List Int) (a b c : Int) : rd (o ++ [a, b, c]) ((o.length + 3 - 0 : Nat) : Int) = 0 ∧ rd (o ++ [a, b, c]) ((o.length + 3 - 1 : Nat) : Int) = c ∧ rd (o ++ [a, b, c]) ((o.length + 3 - 2 : Nat) : Int) = b := by
  refine ⟨?_, ?_, ?_⟩
  · rw [rd_ge]; simp
  · rw [rd_lt _ _ (by simp)]; simp [List.getElem_append_right]
  · rw [rd_lt _ _ (by simp)]; simp [List.getElem_append_right]
theorem take_at (o : List Int) (a b c : Int) : (o ++ [a, b, c]).take (o.length + 3 - 0) = o ++ [a, b, c] ∧ (o ++ [a, b, c]).take (o.length + 3 - 1) = o ++ [a, b] ∧ (o ++ [a, b, c]).take (o.length + 3 - 2) = o ++ [a] := by
  refine ⟨?_, ?_, ?_⟩
  · rw [List.take_of_length_le]; simp
  · rw [show o.length + 3 - 1 = o.length + 2 by omega, List.take_append, List.take_of_length_le (by omega)]; simp
  · rw [show o.length + 3 - 2 = o.length + 1 by omega, List.take_append, List.take_of_length_le (by omega)]; simp
/-- How the two readings stand to each other. -/
def Stand (at_ d : List Int) (pad : Int) (i : Nat) (v : Int) (pads : Nat) (last : Int) (out : List Int) : Prop :=
  (pads = 0 ∧ pad = -1 ∧ d = digs out ++ pend i v ∧ (0 < i → rd at_ ((i : Int) - 1) = last)) ∨
  (pads = 1 ∧ i % 4 = 3 ∧ 0 < pad ∧ pad ≤ i ∧ rd at_ (pad - 1) = last ∧ ∃ w, 0 ≤ w ∧ w < 4096 ∧ v = w * 64 ∧ d = digs out ++ (six (w / 64) ++ six (w % 64))) ∨
  (0 < pads ∧ i % 4 = 0 ∧ 0 < pad ∧ ∃ rest : List Int, rest.length < 8 ∧ d = digs out ++ rest)
open PBitsDecodes in
set_option maxHeartbeats 4000000 in
theorem dec_loop (s : ByteArray) (hs : s.size ≤ 2097152) (T : List (Int × Int)) (hT : T.length ≤ s.size) (hby : ∀ p ∈ T, 0 ≤ p.1 ∧ p.1 ≤ 255) (f : Nat) :
    ∀ (i : Nat) (d : List Int) (pad v : Int) (pads : Nat) (last : Int) (out : List Int), i ≤ T.length → T.length - i ≤ f → Bytes out → out.length ≤ 3 * (i / 4) → 0 ≤ v → v < 262144 → (i % 4 = 0 → v = 0) → (i % 4 = 1 → v < 64) → (i % 4 = 2 → v < 4096) →
    Stand (T.map Prod.snd) d pad i v pads last out → Ev (fun k => posthornref01_Decode.l0 k s (T.map Prod.fst) (T.map Prod.snd) d pad (i : Int)) (decT s.size (T.drop i) i v pads last out) := by
  have hlf : (T.map Prod.fst).length = T.length := List.length_map _
  have hls : (T.map Prod.snd).length = T.length := List.length_map _
  have hend : ∀ (i : Nat) (d : List Int) (pad v : Int) (pads : Nat) (last : Int) (out : List Int), i = T.length → Bytes out → out.length ≤ 3 * (i / 4) → Stand (T.map Prod.snd) d pad i v pads last out → Ev (fun k => posthornref01_Decode.l0 k s (T.map Prod.fst) (T.map Prod.snd) d pad (i : Int)) (decT s.size (T.drop i) i v pads last out) := by
    intro i d pad v pads last out hi hbo hol hst
    rw [List.drop_eq_nil_of_le (by omega), decT]
    by_cases h4 : i % 4 = 0
    · rw [if_pos h4]
      rcases hst with ⟨_, _, hd, _⟩ | ⟨_, h3, _⟩ | ⟨_, _, _, rest, hr, hd⟩
      · refine it_fin s _ _ d pad i out [] (by omega) h4 ?_ hbo (by simp) (by omega)
        rw [hd, pend, if_pos h4]
      · omega
      · exact it_fin s _ _ d pad i out rest (by omega) h4 hd hbo hr (by omega)
    · rw [if_neg h4]
      exact it_end s _ _ d pad i (by omega) hs (by omega) h4
  induction f with
  | zero =>
    intro i d pad v pads last out hi hf hbo hol _ _ _ _ _ hst
    exact hend i d pad v pads last out (by omega) hbo hol hst
  | succ f ih =>
    intro i d pad v pads last out hi hf hbo hol hv0 hv1 hvz hva hvb hst
    by_cases hlt : i < T.length
    · rcases hp : T[i] with ⟨c, q⟩
      have hmem : T[i] ∈ T := List.getElem_mem hlt
      have hc := hby _ hmem
      rw [hp] at hc
      simp only at hc
      obtain ⟨hc0, hc1⟩ := hc
      have hrc : rd (T.map Prod.fst) (i : Int) = c := by rw [rd_lt _ i (by omega)]; simp [hp]
      have hrq : rd (T.map Prod.snd) (i : Int) = q := by rw [rd_lt _ i (by omega)]; simp [hp]
      rw [List.drop_eq_getElem_cons hlt, hp, decT]
      by_cases he1 : valV c = -1 ∧ c ≠ 61
      · rw [if_pos he1]
        exact it_10 s _ _ d pad i c q (by omega) (by omega) hrc hrq hc0 hc1 he1.1 he1.2
      · rw [if_neg he1]
        refine it_j1 s _ _ d pad i c _ (by omega) hrc hc0 hc1 he1 ?_
        by_cases he2 : (c = 61 ∧ i % 4 < 2) ∨ (c ≠ 61 ∧ 0 < pads)
        · rw [if_pos he2]
          refine it_11 s _ _ d pad i c q _ (by omega) (by omega) hrc hrq ?_
          rcases he2 with h | h
          · exact .inl h
          · refine .inr (.inl ⟨h.1, ?_⟩)
            rcases hst with h2 | h2 | h2 <;> omega
        · rw [if_neg he2]
          have hgo : ¬ ((c = 61 ∧ i % 4 < 2) ∨ (c ≠ 61 ∧ 0 ≤ pad) ∨ (c = 61 ∧ 0 ≤ pad ∧ i % 4 = 2)) := by
            rcases hst with h2 | h2 | h2 <;> omega
          refine it_go s _ _ d pad i c _ _ (by omega) hrc hgo ?_
          have hdl : d.length ≤ 8 * out.length + 18 := by
            rcases hst with ⟨_, _, hd, _⟩ | ⟨_, _, _, _, _, w, _, _, _, hd⟩ | ⟨_, _, _, rest, hr, hd⟩
            · have := pend_len i v
              rw [hd, List.length_append, digs_len]; omega
            · rw [hd, List.length_append, digs_len]; simp [six]
            · rw [hd, List.length_append, digs_len]; omega
          by_cases h61 : c = 61
          · simp only [if_pos h61]
            rw [Int.add_zero]
            rcases hst with ⟨hp0, hpd, hd, hla⟩ | ⟨hp1, h3, hpd, hpi, hla, w, hw0, hw1, hvw, hd⟩ | ⟨h0, h4, _⟩
            · subst hp0; subst hpd
              rw [if_pos ⟨h61, by omega⟩]
              by_cases h4 : (i + 1) % 4 = 0
              · rw [if_pos h4, (rd_at out _ _ _).2.1, (take_at out _ _ _).2.1]
                have hd2 : d = digs (out ++ [v * 64 / 65536, v * 64 / 256 % 256]) ++ [v / 2 % 2, v % 2] := by
                  rw [hd, pend_one i v (by omega) hv0 hv1, digs_append, List.append_assoc]
                refine l1_end s _ _ d (i : Int) i _ _ 32 (.inr (by omega)) (by omega) (fun h => absurd ⟨by omega, by omega⟩ h) (fun _ => ⟨by omega, by omega, anyPos [v / 2 % 2, v % 2], ?_, ?_, ?_⟩) (by omega)
                · rw [hd2]; exact tail_ev _ _ (by simp; omega) (by simp)
                · intro h
                  rw [any_one v hv0] at h
                  rw [if_pos (of_decide_eq_true h), hla (by omega)]
                · intro h
                  rw [any_one v hv0] at h
                  rw [if_neg (of_decide_eq_false h)]
                  exact ih (i + 1) d (i : Int) 0 1 last (out ++ [v * 64 / 65536, v * 64 / 256 % 256]) (by omega) (by omega) (hbo.append (by intro x hx; simp at hx; omega)) (by simp; omega) (by omega) (by omega) (by omega) (by omega) (by omega) (.inr (.inr ⟨by omega, h4, by omega, _, by simp, hd2⟩))
              · rw [if_neg h4]
                refine l1_end s _ _ d (i : Int) i _ _ 32 (.inr (by omega)) (by omega) (fun _ => ?_) (fun h => by omega) (by omega)
                exact ih (i + 1) d (i : Int) (v * 64) 1 last out (by omega) (by omega) hbo (by omega) (by omega) (by omega) (by omega) (by omega) (by omega) (.inr (.inl ⟨rfl, by omega, by omega, by omega, hla (by omega), v, hv0, hvb (by omega), rfl, by rw [hd, pend, if_neg (by omega), if_neg (by omega), if_pos (by omega)]⟩))
            · subst hp1
              have h4 : (i + 1) % 4 = 0 := by omega
              rw [if_neg (by omega), if_pos h4, (rd_at out _ _ _).2.2, (take_at out _ _ _).2.2]
              have hyw : v * 64 = w * 4096 := by omega
              rw [hyw]
              have hd2 : d = digs (out ++ [w * 4096 / 65536]) ++ [w / 8 % 2, w / 4 % 2, w / 2 % 2, w % 2] := by
                rw [hd, pend_two w hw0 hw1, digs_append, List.append_assoc]
              refine l1_end s _ _ d pad i _ _ 32 (.inr (by omega)) (by omega) (fun h => absurd ⟨by omega, by omega⟩ h) (fun _ => ⟨by omega, by omega, anyPos [w / 8 % 2, w / 4 % 2, w / 2 % 2, w % 2], ?_, ?_, ?_⟩) (by omega)
              · rw [hd2]; exact tail_ev _ _ (by simp; omega) (by simp)
              · intro h
                rw [any_two w hw0] at h
                rw [if_pos (of_decide_eq_true h), hla]
              · intro h
                rw [any_two w hw0] at h
                rw [if_neg (of_decide_eq_false h)]
                exact ih (i + 1) d pad 0 2 last (out ++ [w * 4096 / 65536]) (by omega) (by omega) (hbo.append (by intro x hx; simp at hx; omega)) (by simp; omega) (by omega) (by omega) (by omega) (by omega) (by omega) (.inr (.inr ⟨by omega, h4, by omega, _, by simp, hd2⟩))
            · omega
          · simp only [if_neg h61]
            rw [if_neg (fun h => h61 h.1)]
            have hD : 0 ≤ valV c ∧ valV c ≤ 63 := by rcases val_cases c hc0 hc1 with h | h <;> omega
            obtain ⟨hD0, hD1⟩ := hD
            have hp0 : pads = 0 := by omega
            rcases hst with ⟨_, hpd, hd, hla⟩ | ⟨hp1, _⟩ | ⟨h0, _⟩
            · subst hp0; subst hpd
              generalize valV c = D at *
              refine l1_six s _ _ d (-1) i _ D hD0 hD1 (by omega) (by omega) ?_
              refine l1_end s _ _ _ (-1) i _ _ 0 (.inl (by omega)) (by omega) (fun _ => ?_) (fun h => by omega) (by omega)
              by_cases h4 : (i + 1) % 4 = 0
              · rw [if_pos h4, (rd_at out _ _ _).1, (take_at out _ _ _).1, if_neg (by simp)]
                refine ih (i + 1) (d ++ six D) (-1) 0 0 q _ (by omega) (by omega) (hbo.append (by intro x hx; simp at hx; omega)) (by simp; omega) (by omega) (by omega) (by omega) (by omega) (by omega) (.inl ⟨rfl, rfl, ?_, fun _ => by rw [← hrq]; congr 1; omega⟩)
                rw [hd, List.append_assoc, pend_full i v D (by omega) hv0 hv1 hD0 hD1, digs_append, pend, if_pos h4, List.append_nil]
              · rw [if_neg h4]
                refine ih (i + 1) (d ++ six D) (-1) (v * 64 + D) 0 q out (by omega) (by omega) hbo (by omega) (by omega) (by omega) (by omega) (by omega) (by omega) (.inl ⟨rfl, rfl, ?_, fun _ => by rw [← hrq]; congr 1; omega⟩)
                rw [hd, List.append_assoc, pend_next i v D h4 hv0 hD0 hD1 hvz]
            · omega
            · omega
    · exact hend i d pad v pads last out (by omega) hbo hol hst
theorem toks_bytes : ∀ (l : List Int) (i : Int), Bytes l → ∀ p ∈ toks l i, 0 ≤ p.1 ∧ p.1 ≤ 255
  | [], _, _, p, hp => by simp [toks] at hp
  | [x], i, h, p, hp => by simp [toks] at hp; subst hp; exact h x (by simp)
  | x :: y :: t, i, h, p, hp => by
    rw [toks] at hp
    split at hp
    · exact toks_bytes t _ (fun z hz => h z (by simp [hz])) p hp
    · rcases List.mem_cons.1 hp with rfl | hp
      · exact h x (by simp)
      · exact toks_bytes (y :: t) _ (fun z hz => h z (List.mem_cons_of_mem _ hz)) p hp
theorem toks_len : ∀ (l : List Int) (i : Int), (toks l i).length ≤ l.length
  | [], _ => by simp [toks]
  | [x], i => by simp [toks]
  | x :: y :: t, i => by
    rw [toks]
    split
    · have := toks_len t (i + 2); simp; omega
    · have := toks_len (y :: t) (i + 1); simp only [List.length_cons] at *; omega
theorem bytesOf_bytes (s : ByteArray) : Bytes (bytesOf s) := by
  intro x hx
  simp only [bytesOf, List.mem_map] at hx
  obtain ⟨b, _, rfl⟩ := hx
  have := b.toNat_lt
  omega
open PBitsDecodes in
theorem ref_decode_ev (s : ByteArray) (hs : s.size ≤ 2097152) : Ev (fun k => posthornref01_Decode.f k s) (decV (bytesOf s)) := by
  have HL : (bytesOf s).length = s.size := bytesOf_length s
  unfold posthornref01_Decode.f
  refine Ev.neg (by omega) ?_
  refine Ev.bind (bare_ev s hs) ?_
  rw [decV, if_neg (by omega), HL]
  have hl := toks_len (bytesOf s) 0
  exact dec_loop s hs (toks (bytesOf s) 0) (by omega) (toks_bytes _ _ (bytesOf_bytes s)) _ 0 [] (-1) 0 0 0 [] (by omega) (Nat.le_refl _) (by intro x hx; cases hx) (by simp) (by omega) (by omega) (by omega) (by omega) (by omega) (.inl ⟨rfl, rfl, rfl, fun h => absurd h (by omega)⟩)
end Go.Proofs.Ytijccfblenmfcaa
