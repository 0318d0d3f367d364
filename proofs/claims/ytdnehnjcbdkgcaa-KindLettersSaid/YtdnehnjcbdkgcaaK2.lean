/- kind: values, blanks, prefixes, tokens off a text's front, quoted texts. -/
import Derived.Test.YtdnehnjcbdkgcaaK1
import Derived.IntWalk
namespace Go.Proofs.Ytdnehnjcbdkgcaa
open Go.RowKit Go.Shelf Go.Proofs.YtdnehnjcbdkgcaaW.PrintWords

def prtB (c : Int) : Bool := decide (32 ≤ c) && decide (c ≤ 126)
def valueB (l : List Int) : Bool := l.all prtB && decide (l.length ≤ 256)
set_option maxRecDepth 100000 in
set_option maxHeartbeats 1000000 in
theorem isValue_any (l : List Int) (w : World) (hby : Bytes l) (hl : l.length ≤ 9223372036854775807) :
    Calls Try.prog 38 #[.string (St l)] w fun e w' => e = .returned (.bool (valueB l)) ∧ w = w' := by
  have HBY := Lib.hid hby
  have HAT := Lib.hid (fun i hi => St_at hby i hi)
  have hsz := St_size l
  have HT : Hid (valueB l = (l.all prtB && decide (l.length ≤ 256))) := Lib.hid rfl
  generalize valueB l = T at *
  generalize St l = s at *
  have HSZ := Lib.hid hsz
  have hls : s.size ≤ 9223372036854775807 := by omega
  clear hby hsz
  go_enter Try.func38, Try.ntmps38
  go_wp2
  go_loop [6] (fun s6 => ∃ k : Nat, k ≤ s.size ∧ s6 = .int .i64 k ∧ Hid ((l.take k).all prtB = true)) (fun s6 => s.size - (intOf s6).toNat)
  case atStart => exact ⟨0, Nat.zero_le _, rfl, Lib.hid rfl⟩
  case round =>
    obtain ⟨k, hk, rfl, HA⟩ := hrel
    by_cases hlt : k < s.size
    · have hkl : k < l.length := by have := HSZ.out; omega
      have HTK := Lib.hid (take_succ_rd l k hkl)
      have he := HAT.out k hlt
      have hr := HBY.out.rd k
      have HIN : Hid (rd l (k : Int) ∈ l) := Lib.hid (by rw [rd_lt l k hkl]; exact List.getElem_mem hkl)
      generalize rd l (k : Int) = c at *
      by_cases h1 : 32 ≤ c ∧ c ≤ 126
      · have HS : Hid (prtB c = true) := Lib.hid (by unfold prtB; rw [decide_eq_true h1.1, decide_eq_true h1.2]; rfl)
        obtain ⟨h1, h2⟩ := h1
        go_wp2
        go_round
        case rel => exact ⟨k + 1, by omega, by go_num, Lib.hid (by rw [HTK.out, List.all_append, HA.out]; simp [HS.out])⟩
        case measure => simp [intOf]; omega
      · have hF : T = false := by
          rw [HT.out]
          have h2 : l.all prtB = false := List.all_eq_false.2 ⟨c, HIN.out, by unfold prtB; simp; omega⟩
          rw [h2]; rfl
        have HTF := Lib.hid hF
        have h2 : c < 32 ∨ (32 ≤ c ∧ 126 < c) := by omega
        clear hF h1
        rcases h2 with h2 | ⟨h2, h3⟩
        all_goals
          go_wp2
          go_ret
          exact ⟨by rw [HTF.out]; rfl, rfl⟩
    · have hT : T = decide ((s.size : Int) ≤ 256) := by
        have h := HA.out
        rw [show k = l.length by have := HSZ.out; omega, List.take_length] at h
        rw [HT.out, h, HSZ.out]
        by_cases h : l.length ≤ 256
        · rw [decide_eq_true h, decide_eq_true (by omega)]; rfl
        · rw [decide_eq_false h, decide_eq_false (by omega)]; rfl
      have HTF := Lib.hid hT
      clear hT
      go_wp2
      go_ret
      exact ⟨by rw [HTF.out]; rfl, rfl⟩
def blkC (c : Int) : Bool := c == 32 || c == 9
def blankL (l : List Int) : List Int := l.dropWhile blkC
theorem bytes_cons {c : Int} {t : List Int} (h : Bytes (c :: t)) : (0 ≤ c ∧ c ≤ 255) ∧ Bytes t := ⟨h c List.mem_cons_self, fun x hx => h x (List.mem_cons_of_mem _ hx)⟩
/-- A text that is not empty. -/
theorem St_cons {c : Int} {t : List Int} (hby : Bytes (c :: t)) : (∀ h, (((St (c :: t))[0]'h).toNat : Int) = c) ∧ (St (c :: t)).size = t.length + 1 ∧ (St (c :: t)).extract 1 (St (c :: t)).size = St t ∧ 0 < (St (c :: t)).size := by
  refine ⟨fun h => ?_, St_size _, ?_, by rw [St_size]; simp⟩
  · have h2 := St_at hby 0 h
    simpa [rd] using h2
  · rw [St_extract, St_size, List.take_length]; rfl
set_option maxRecDepth 100000 in
set_option maxHeartbeats 1000000 in
theorem blank_any (l : List Int) (w : World) (hby : Bytes l) (hl : l.length ≤ 4611686018427387904) :
    Calls Try.prog 23 #[.string (St l)] w fun e w' => e = .returned (.string (St (blankL l))) ∧ w = w' := by
  have HBY := Lib.hid hby
  have HL := Lib.hid hl
  obtain ⟨R, hR⟩ : ∃ R, blankL l = R := ⟨_, rfl⟩
  rw [hR]
  have HR := Lib.hid hR
  clear hby hl hR
  go_enter Try.func23, Try.ntmps23
  go_wp2
  go_loop [0] (fun s0 => ∃ q : List Int, s0 = .string (St q) ∧ Hid (Bytes q) ∧ Hid (blankL q = R) ∧ Hid (q.length ≤ 4611686018427387904)) (fun s0 => match s0 with | .string s => s.size | _ => 0)
  case atStart => exact ⟨l, rfl, HBY, HR, HL⟩
  case round =>
    obtain ⟨q, rfl, HB, HQ, HQL⟩ := hrel
    rcases q with _ | ⟨c, t⟩
    · have HE : Hid (R = []) := Lib.hid HQ.out.symm
      have h0 : (St []).size = 0 := by rw [St_size]; rfl
      have HSN : Hid (St R = St []) := Lib.hid (by rw [HE.out])
      generalize St [] = s at *
      go_wp2
      go_ret
      exact ⟨by rw [HSN.out]; rfl, rfl⟩
    · obtain ⟨e0, hsz, hx, hpos⟩ := St_cons HB.out
      obtain ⟨⟨hc0, hc1⟩, hbt⟩ := bytes_cons HB.out
      have hszl : (St (c :: t)).size ≤ 9223372036854775807 := by have := HQL.out; rw [St_size]; omega
      have HSZT := Lib.hid (St_size t)
      have HBT := Lib.hid hbt
      have HSZ := Lib.hid hsz
      have hpos1 : 1 ≤ (St (c :: t)).size := hpos
      have HQR := Lib.hid hx
      have hdec : (blkC c = true ∧ ((c == 32) = true ∨ ((c == 32) = false ∧ (c == 9) = true))) ∨ (blkC c = false ∧ (c == 32) = false ∧ (c == 9) = false) := by
        unfold blkC
        cases (c == 32) <;> cases (c == 9) <;> simp
      have HSR : Hid (blkC c = false → St (c :: t) = St R) := Lib.hid (fun h => by rw [← HQ.out]; unfold blankL; rw [List.dropWhile_cons_of_neg (by rw [h]; decide)])
      have HTR : Hid (blkC c = true → blankL t = R) := Lib.hid (fun h => by rw [← HQ.out]; unfold blankL; rw [List.dropWhile_cons_of_pos h])
      have HTL : Hid (t.length ≤ 4611686018427387904) := Lib.hid (by have := HQL.out; simp at this; omega)
      clear hbt hsz
      generalize St (c :: t) = s at *
      rcases hdec with ⟨hb, b1 | ⟨b1, b2⟩⟩ | ⟨hb, b1, b2⟩
      · have HTR2 := Lib.hid (HTR.out hb)
        clear hb
        go_wp2
        go_round
        case rel => exact ⟨t, rfl, HBT, HTR2, HTL⟩
        case measure => simp only; rw [HSZT.out, HSZ.out]; omega
      · have HTR2 := Lib.hid (HTR.out hb)
        clear hb
        go_wp2
        go_round
        case rel => exact ⟨t, rfl, HBT, HTR2, HTL⟩
        case measure => simp only; rw [HSZT.out, HSZ.out]; omega
      · have HSR2 := Lib.hid (HSR.out hb)
        clear hb
        go_wp2
        go_ret
        exact ⟨by rw [← HSR2.out]; rfl, rfl⟩
def cutP (p : Int) : List Int → Option (List Int)
  | c :: t => if c = p then some t else none
  | [] => none
theorem cutP_cons (p c : Int) (t : List Int) : cutP p (c :: t) = if c = p then some t else none := rfl
def hasP (p : Int) (l : List Int) : Bool := (cutP p l).isSome
set_option maxHeartbeats 1000000 in
theorem lhas_any (p : Int) (q : ByteArray) (l : List Int) (w : World) (hq : q = St [p]) (hp : 0 ≤ p ∧ p ≤ 255) (hby : Bytes l) (hl : l.length ≤ 9223372036854775807) :
    Calls Try.prog 46 #[.string (St l), .string q] w fun e w' => e = .returned (.bool (hasP p l)) ∧ w = w' := by
  have hqs : q.size = 1 := by rw [hq, St_size]; rfl
  rcases l with _ | ⟨c, t⟩
  · have h0 : (St []).size = 0 := by rw [St_size]; rfl
    generalize St [] = s at *
    clear hq
    go_enter Try.func46, Try.ntmps46
    go_wp2
    go_ret
    exact ⟨rfl, rfl⟩
  · have hex : (St (c :: t)).extract 0 1 = St [c] := by rw [St_extract]; rfl
    have hsz := St_size (c :: t)
    have hge : 1 ≤ (St (c :: t)).size := by rw [hsz]; simp
    have hle : (St (c :: t)).size ≤ 9223372036854775807 := by rw [hsz]; exact hl
    have hb : ((St [c]).toList == q.toList) = hasP p (c :: t) := by
      rw [hq, St_beq (fun x hx => by rw [List.mem_singleton] at hx; subst hx; exact hby _ List.mem_cons_self) (fun x hx => by rw [List.mem_singleton] at hx; subst hx; exact hp)]
      unfold hasP
      rw [cutP_cons]
      by_cases h : c = p
      · subst h; simp
      · rw [if_neg h]; simp [h]
    obtain ⟨R, hR⟩ : ∃ R, hasP p (c :: t) = R := ⟨_, rfl⟩
    rw [hR] at hb ⊢
    clear hR hsz hq hby hl
    generalize St (c :: t) = s at *
    generalize St [c] = z at *
    go_enter Try.func46, Try.ntmps46
    go_wp2
    go_ret
    exact ⟨rfl, rfl⟩
theorem has_any (p : Int) (q : ByteArray) (l : List Int) (w : World) (hq : q = St [p]) (hp : 0 ≤ p ∧ p ≤ 255) (hby : Bytes l) (hl : l.length ≤ 9223372036854775807) :
    Calls Try.prog 41 #[.string (St l), .string q] w fun e w' => e = .returned (.bool (hasP p l)) ∧ w = w' := by
  have HC := Lib.hid (lhas_any p q l w hq hp hby hl)
  generalize hasP p l = R at *
  generalize St l = s at *
  clear hq
  go_enter Try.func41, Try.ntmps41
  go_wp2_with (first | (go_at_call 46; ((with_reducible refine HC.out.mono ?_); rintro e w' ⟨rfl, rfl⟩)))
  go_ret
  exact ⟨rfl, rfl⟩
def CutEnds (w : World) (r : List Int) (b : Bool) (e : Ending) (w' : World) : Prop := e = .returned (.tuple #[.string (St r), .bool b]) ∧ w = w'
set_option maxHeartbeats 1000000 in
theorem lcut_any (p : Int) (q : ByteArray) (l : List Int) (w : World) (hq : q = St [p]) (hp : 0 ≤ p ∧ p ≤ 255) (hby : Bytes l) (hl : l.length ≤ 9223372036854775807) :
    Calls Try.prog 40 #[.string (St l), .string q] w (CutEnds w ((cutP p l).getD l) (hasP p l)) := by
  have HC := Lib.hid (lhas_any p q l w hq hp hby hl)
  have hqs : q.size = 1 := by rw [hq, St_size]; rfl
  rcases hh : cutP p l with _ | t
  · have hf : hasP p l = false := by unfold hasP; rw [hh]; rfl
    rw [hf] at HC ⊢
    rw [Option.getD_none]
    unfold CutEnds
    generalize St l = s at *
    clear hq hf hh
    go_enter Try.func40, Try.ntmps40
    go_wp2_with (first | (go_at_call 46; ((with_reducible refine HC.out.mono ?_); rintro e w' ⟨rfl, rfl⟩)))
    go_ret2
    exact ⟨rfl, rfl⟩
  · have hf : hasP p l = true := by unfold hasP; rw [hh]; rfl
    rw [hf] at HC ⊢
    rw [Option.getD_some]
    rcases l with _ | ⟨c, t'⟩
    · cases hh
    · have ht : t' = t := by
        rw [cutP_cons] at hh
        split at hh
        · injection hh
        · cases hh
      subst ht
      obtain ⟨he0, hsz0, hx, hpos⟩ := St_cons hby
      clear he0 hsz0
      unfold CutEnds
      have hpos1 : 1 ≤ (St (c :: t')).size := hpos
      have hle : (St (c :: t')).size ≤ 9223372036854775807 := by rw [St_size]; exact hl
      generalize St (c :: t') = s at *
      generalize St t' = z at *
      clear hq hf hh hby hl
      go_enter Try.func40, Try.ntmps40
      go_wp2_with (first | (go_at_call 46; ((with_reducible refine HC.out.mono ?_); rintro e w' ⟨rfl, rfl⟩)))
      go_ret2
      exact ⟨rfl, rfl⟩
theorem cut_any (p : Int) (q : ByteArray) (l : List Int) (w : World) (hq : q = St [p]) (hp : 0 ≤ p ∧ p ≤ 255) (hby : Bytes l) (hl : l.length ≤ 9223372036854775807) :
    Calls Try.prog 24 #[.string (St l), .string q] w (CutEnds w ((cutP p l).getD l) (hasP p l)) := by
  have HC := Lib.hid (lcut_any p q l w hq hp hby hl)
  unfold CutEnds at HC ⊢
  generalize hasP p l = R at *
  generalize (cutP p l).getD l = z at *
  generalize St l = s at *
  clear hq
  go_enter Try.func24, Try.ntmps24
  go_wp2_with (first | (go_at_call 40; ((with_reducible refine HC.out.mono ?_); rintro e w' ⟨rfl, rfl⟩)))
  go_ret2
  exact ⟨rfl, rfl⟩
end Go.Proofs.Ytdnehnjcbdkgcaa
