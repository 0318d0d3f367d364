/- kind: what stands between two quotes, off a text's front. -/
import Derived.Test.YtdnehnjcbdkgcaaK3
namespace Go.Proofs.Ytdnehnjcbdkgcaa
open Go.RowKit Go.Shelf Go.Proofs.YtdnehnjcbdkgcaaW.PrintWords

def quoL (acc : List Int) : List Int → Option (List Int × List Int)
  | [] => none
  | [c] => if c = 34 then some (acc, []) else none
  | c :: d :: t => if c = 34 then some (acc, d :: t) else if c = 92 then quoL (acc ++ [d]) t else quoL (acc ++ [c]) (d :: t)
theorem quoL_end (acc : List Int) : quoL acc [] = none := by rw [quoL]
theorem quoL_q (acc : List Int) (c : Int) (t : List Int) (h : c = 34) : quoL acc (c :: t) = some (acc, t) := by
  cases t with
  | nil => rw [quoL, if_pos h]
  | cons d t => rw [quoL, if_pos h]
theorem quoL_e0 (acc : List Int) (c : Int) (h : c = 92) : quoL acc [c] = none := by rw [quoL, if_neg (by omega)]
theorem quoL_e (acc : List Int) (c d : Int) (t : List Int) (h : c = 92) : quoL acc (c :: d :: t) = quoL (acc ++ [d]) t := by rw [quoL, if_neg (by omega), if_pos h]
theorem quoL_s (acc : List Int) (c : Int) (t : List Int) (h : c ≠ 34) (h2 : c ≠ 92) : quoL acc (c :: t) = quoL (acc ++ [c]) t := by
  cases t with
  | nil => rw [quoL_end, quoL]; exact if_neg h
  | cons d t => rw [quoL, if_neg h, if_neg h2]
theorem quoL_len : ∀ (n : Nat) (l acc : List Int), l.length ≤ n → ∀ r, quoL acc l = some r → r.1.length ≤ acc.length + l.length ∧ r.2.length ≤ l.length := by
  intro n
  induction n with
  | zero =>
    intro l acc hl r h
    have e : l = [] := List.eq_nil_of_length_eq_zero (by omega)
    rw [e, quoL_end] at h; cases h
  | succ n ih =>
    intro l acc hl r h
    rcases l with _ | ⟨c, t⟩
    · rw [quoL_end] at h; cases h
    · rw [List.length_cons] at hl ⊢
      by_cases h1 : c = 34
      · rw [quoL_q _ _ _ h1] at h; cases h; simp
      · by_cases h2 : c = 92
        · rcases t with _ | ⟨d, t⟩
          · rw [quoL_e0 _ _ h2] at h; cases h
          · rw [quoL_e _ _ _ _ h2] at h
            simp only [List.length_cons] at hl ⊢
            have := ih t _ (by omega) r h
            simp only [List.length_append, List.length_singleton] at this
            omega
        · rw [quoL_s _ _ _ h1 h2] at h
          have := ih t _ (by omega) r h
          simp only [List.length_append, List.length_singleton] at this
          omega
theorem quoL_bytes : ∀ (n : Nat) (l acc : List Int), l.length ≤ n → Bytes l → Bytes acc → ∀ r, quoL acc l = some r → Bytes r.1 ∧ Bytes r.2 := by
  intro n
  induction n with
  | zero =>
    intro l acc hl _ _ r h
    have e : l = [] := List.eq_nil_of_length_eq_zero (by omega)
    rw [e, quoL_end] at h; cases h
  | succ n ih =>
    intro l acc hl hb ha r h
    rcases l with _ | ⟨c, t⟩
    · rw [quoL_end] at h; cases h
    · rw [List.length_cons] at hl
      have hbt : Bytes t := fun x hx => hb x (List.mem_cons_of_mem _ hx)
      have hbc := hb c List.mem_cons_self
      have happ : ∀ d, 0 ≤ d ∧ d ≤ 255 → Bytes (acc ++ [d]) := fun d hd x hx => by
        rcases List.mem_append.1 hx with hx | hx
        · exact ha x hx
        · rw [List.mem_singleton.1 hx]; exact hd
      by_cases h1 : c = 34
      · rw [quoL_q _ _ _ h1] at h; cases h; exact ⟨ha, hbt⟩
      · by_cases h2 : c = 92
        · rcases t with _ | ⟨d, t⟩
          · rw [quoL_e0 _ _ h2] at h; cases h
          · rw [quoL_e _ _ _ _ h2] at h
            exact ih t _ (by simp only [List.length_cons] at hl; omega) (fun x hx => hbt x (List.mem_cons_of_mem _ hx)) (happ d (hbt d List.mem_cons_self)) r h
        · rw [quoL_s _ _ _ h1 h2] at h
          exact ih t _ (by omega) hbt (happ c hbc) r h
def quoR (r : Option (List Int × List Int)) : List Int × List Int × Bool := match r with | some (a, t) => (a, t, true) | none => ([], [], false)
def QuoEnds (w : World) (r : List Int × List Int × Bool) (e : Ending) (w' : World) : Prop := e = .returned (.tuple #[.string (St r.1), .string (St r.2.1), .bool r.2.2]) ∧ Below w.heap.size w w'
theorem St_nil : St [] = ByteArray.empty := rfl
set_option maxRecDepth 100000 in
set_option maxHeartbeats 2000000 in
theorem quoted_any (l : List Int) (w : World) (hby : Bytes l) (h1 : 1 ≤ l.length) (hl : l.length ≤ 140737488355327) :
    Calls Try.prog 42 #[.string (St l)] w (QuoEnds w (quoR (quoL [] (l.drop 1)))) := by
  have HBY := Lib.hid hby
  have HAT := Lib.hid (fun i hi => St_at hby i hi)
  have hsz := St_size l
  have HX2 : Hid (∀ k, (St l).extract k (St l).size = St (l.drop k)) := Lib.hid (fun k => by rw [St_extract, St_size, List.take_length])
  have HDC : Hid (∀ k, k < l.length → l.drop k = rd l (k : Int) :: l.drop (k + 1)) := Lib.hid (fun k hk => by rw [List.drop_eq_getElem_cons hk, ← rd_lt l k hk])
  have HDN : Hid (∀ k, l.length ≤ k → l.drop k = []) := Lib.hid (fun k hk => List.drop_eq_nil_of_le hk)
  obtain ⟨R, hR⟩ : ∃ R, quoL [] (l.drop 1) = R := ⟨_, rfl⟩
  rw [hR]
  generalize St l = s at *
  have HSZ := Lib.hid hsz
  have hls : s.size ≤ 140737488355327 := by omega
  have hls1 : 1 ≤ s.size := by omega
  clear hby hsz hl h1
  go_enter Try.func42, Try.ntmps42
  go_wp2
  go_loopw [5, 6] (fun s5 s6 wr => ∃ (acc : List Int) (k : Nat), k ≤ s.size ∧ s6 = .int .i64 k ∧ Hid (ORow .u8 5 wr w.heap.size s5 acc) ∧ Hid (Below w.heap.size w wr) ∧ Hid (Bytes acc) ∧ Hid (acc.length ≤ k) ∧ Hid (quoL acc (l.drop k) = R)) (fun _ s6 _ => s.size - (intOf s6).toNat)
  case atStart => exact ⟨[], 1, hls1, rfl, Lib.hid (ORow.nil _ _ _ _), Lib.hid (Below.refl _ _), Lib.hid (by intro x hx; cases hx), Lib.hid (Nat.zero_le _), Lib.hid hR⟩
  case round =>
    obtain ⟨acc, k, hk, rfl, HO, HB, HAB, HA, HQ⟩ := hrel
    clear hR
    have HW : wr.heap.size ≥ w.heap.size := HB.out.size
    by_cases hlt : k < s.size
    · have hkl : k < l.length := by have := HSZ.out; omega
      have he := HAT.out k hlt
      have hr := HBY.out.rd k
      have hd := HDC.out k hkl
      have hq := HQ.out
      rw [hd] at hq
      have happ : ∀ d, 0 ≤ d ∧ d ≤ 255 → Bytes (acc ++ [d]) := fun d hd x hx => by
        rcases List.mem_append.1 hx with hx | hx
        · exact HAB.out x hx
        · rw [List.mem_singleton.1 hx]; exact hd
      have HAPP := Lib.hid happ
      clear HQ hd happ
      generalize rd l (k : Int) = c at *
      by_cases c1 : c = 34
      · have hRR : R = some (acc, l.drop (k + 1)) := by rw [← hq, quoL_q _ _ _ c1]
        have hx2 := HX2.out (k + 1)
        subst c1
        obtain ⟨A1, ca, rfl, hca, hR1⟩ := HO.out.reads
        have kc1 : ∀ k, (convert 39 9 (.slice A1 acc.length ca)).run Try.prog (wr.drewN k) = .ok (.string (strOfNums acc)) (wr.drewN k) := fun k => string_of_reads Try.underlying39 Try.underlying5 Try.underlying9 (ReadsInt.drewN hR1 k)
        have HRR := Lib.hid hRR
        clear hRR hq hca hR1 hkl
        go_wp2
        go_quiet (fail)
        go_wp2
        go_ret3
        refine ⟨by rw [HRR.out]; rfl, ?_⟩
        exact pw_below_drewN HB.out _
      · by_cases c2 : c = 92
        · by_cases hk2 : k + 1 < s.size
          · have hkl2 : k + 1 < l.length := by have := HSZ.out; omega
            have he2 := HAT.out (k + 1) hk2
            have hr2 := HBY.out.rd (k + 1)
            have hd2 := HDC.out (k + 1) hkl2
            rw [hd2, quoL_e _ _ _ _ c2] at hq
            have HQ2 := Lib.hid hq
            subst c2
            clear hq hd2 hkl hkl2
            generalize rd l ((k + 1 : Nat) : Int) = d at *
            have HBA := Lib.hid (HAPP.out d hr2)
            clear HAPP
            go_wp2_with (first
              | (at_builtin; refine print_append_num (w0 := w) w.heap.size rfl (.tmp 36) (.tmp 38) 39 5 .u8 1 rfl Try.underlying39 infoU8 (by decide) _ acc d rfl rfl HO.out HB.out HW (by have := HA.out; omega) ?_; intro v1 w1 hO1 hB1 _ _; have HO1 := Lib.hid hO1; have HB1 := Lib.hid hB1; clear hO1 hB1))
            go_roundw
            case rel => exact ⟨acc ++ [d], k + 1 + 1, by omega, by go_num, HO1, HB1, HBA, Lib.hid (by have := HA.out; simp; omega), HQ2⟩
            case measure => simp [intOf]; omega
          · have hd2 := HDN.out (k + 1) (by have := HSZ.out; omega)
            rw [hd2, quoL_e0 _ _ c2] at hq
            have HRR := Lib.hid hq.symm
            subst c2
            clear hq hd2 hkl HAPP
            go_wp2
            go_ret3
            exact ⟨by rw [HRR.out]; rfl, HB.out⟩
        · rw [quoL_s _ _ _ c1 c2] at hq
          have HQ2 := Lib.hid hq
          have HBA := Lib.hid (HAPP.out c hr)
          clear HAPP hq hkl
          go_wp2_with (first
            | (at_builtin; refine print_append_num (w0 := w) w.heap.size rfl (.tmp 36) (.tmp 38) 39 5 .u8 1 rfl Try.underlying39 infoU8 (by decide) _ acc c rfl rfl HO.out HB.out HW (by have := HA.out; omega) ?_; intro v1 w1 hO1 hB1 _ _; have HO1 := Lib.hid hO1; have HB1 := Lib.hid hB1; clear hO1 hB1))
          go_roundw
          case rel => exact ⟨acc ++ [c], k + 1, by omega, by go_num, HO1, HB1, HBA, Lib.hid (by have := HA.out; simp; omega), HQ2⟩
          case measure => simp [intOf]; omega
    · have hd := HDN.out k (by have := HSZ.out; omega)
      have hq := HQ.out
      rw [hd, quoL_end] at hq
      have HRR := Lib.hid hq.symm
      clear hq hd HQ
      go_wp2
      go_ret3
      exact ⟨by rw [HRR.out]; rfl, HB.out⟩
end Go.Proofs.Ytdnehnjcbdkgcaa
