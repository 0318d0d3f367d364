/- The package utf: Next. -/
import Derived.Test.YtpbgpbblbohmgaaUtf
namespace Go.Proofs.Ytpbgpbblbohmgaa
open Go.RowKit Go.Proofs.YtpbgpbblbohmgaaW.PrintWords

def ldP (c : Int) : Int := if c / 32 = 6 then c % 32 else if c / 16 = 14 then c % 16 else if c / 8 = 30 then c % 8 else 0
def ldN (c : Int) : Nat := if c / 32 = 6 then 2 else if c / 16 = 14 then 3 else if c / 8 = 30 then 4 else 0
def shiftIn (p : Int) (t : List Int) : Int := t.foldl (fun p c => p * 64 + c % 64) p
def okPN (p : Int) (n : Nat) : Bool := isPt p && !(n == 2 && decide (p < 128)) && !(n == 3 && decide (p < 2048)) && !(n == 4 && decide (p < 65536))
def contB (q : List Int) : Bool := q.all fun c => c / 64 == 2
def tailOf (l : List Int) (n : Nat) : List Int := (l.take n).drop 1
/-- What Next tells: the point, its length, the error. -/
def nextV (l : List Int) : Int × Nat × Int :=
  if l.length = 0 then (0, 0, 42) else if rd l 0 < 128 then (rd l 0, 1, 0) else
  if ldN (rd l 0) = 0 ∨ l.length < ldN (rd l 0) then (0, 0, 20) else
  if contB (tailOf l (ldN (rd l 0))) = true ∧ okPN (shiftIn (ldP (rd l 0)) (tailOf l (ldN (rd l 0)))) (ldN (rd l 0)) = true then (shiftIn (ldP (rd l 0)) (tailOf l (ldN (rd l 0))), ldN (rd l 0), 0) else (0, 0, 20)

theorem shiftIn_snoc (p : Int) (t : List Int) (c : Int) : shiftIn p (t ++ [c]) = shiftIn p t * 64 + c % 64 := by simp [shiftIn, List.foldl_append]
theorem ldN_cases (c : Int) : ldN c = 0 ∨ ldN c = 2 ∨ ldN c = 3 ∨ ldN c = 4 := by unfold ldN; split <;> (try split) <;> (try split) <;> simp
theorem ldP_bd (c : Int) : 0 ≤ ldP c ∧ ldP c < 32 := by unfold ldP; split <;> (try split) <;> (try split) <;> omega
theorem take_succ_rd (q : List Int) (k : Nat) (h : k < q.length) : q.take (k + 1) = q.take k ++ [rd q (k : Int)] := by
  rw [List.take_succ_eq_append_getElem h, rd_lt q k h]

theorem next_nil (A : Option Addr) (c : Nat) (w : World) :
    Calls Try.prog 29 #[.slice A 0 c] w fun e w' => e = .returned (.tuple #[.int .i32 0, .int .i64 0, .int .i64 42]) ∧ w = w' := by
  go_enter Try.func29, Try.ntmps29
  go_wp2
  go_step3
  go_wp2
  rw [Exit.noGoto_ret]
  go_ret3
  exact ⟨rfl, rfl⟩

set_option maxHeartbeats 400000 in
theorem next_lt (A : Option Addr) (l : List Int) (c : Nat) (w : World) (hr : ReadsInt w .u8 A l.length l) (h0 : 0 < l.length) (hx0 : 0 ≤ rd l 0) (hx : rd l 0 < 128) :
    Calls Try.prog 29 #[.slice A l.length c] w fun e w' => e = .returned (.tuple #[.int .i32 (rd l 0), .int .i64 1, .int .i64 0]) ∧ w = w' := by
  obtain ⟨ad, rfl, hcell⟩ := hr.at_ 0 (by omega) (by omega)
  rw [show ((0 : Int)).toNat = 0 from rfl, Addr.add_zero'] at hcell
  have hm := hr.2.1
  clear hr
  go_enter Try.func29, Try.ntmps29
  go_wp2
  go_step3
  go_wp2
  rw [Exit.noGoto_ret]
  go_ret3
  exact ⟨rfl, rfl⟩

def NextEnds (w : World) (r : Int × Nat × Int) (e : Ending) (w' : World) : Prop := e = .returned (.tuple #[.int .i32 r.1, .int .i64 (r.2.1 : Int), .int .i64 r.2.2]) ∧ w = w'

set_option maxRecDepth 100000 in
set_option maxHeartbeats 1000000 in
theorem next_ge (A : Option Addr) (l : List Int) (c : Nat) (w : World) (hr : ReadsInt w .u8 A l.length l) (hby : Bytes l) (hc : l.length ≤ c) (h0 : 0 < l.length) (hx : 128 ≤ rd l 0) :
    Calls Try.prog 29 #[.slice A l.length c] w (NextEnds w (nextV l)) := by
  obtain ⟨ad, rfl, hcell⟩ := hr.at_ 0 (by omega) (by omega)
  rw [show ((0 : Int)).toNat = 0 from rfl, Addr.add_zero'] at hcell
  have hm := hr.2.1
  have HR := Lib.hid hr
  clear hr
  have hb8 := hby.rd
  have hx1 := (hb8 0).2
  clear hby
  have HB8 := Lib.hid hb8
  clear hb8
  have HV : Hid (nextV l = if ldN (rd l 0) = 0 ∨ l.length < ldN (rd l 0) then (0, 0, 20) else
      if contB (tailOf l (ldN (rd l 0))) = true ∧ okPN (shiftIn (ldP (rd l 0)) (tailOf l (ldN (rd l 0)))) (ldN (rd l 0)) = true then (shiftIn (ldP (rd l 0)) (tailOf l (ldN (rd l 0))), ldN (rd l 0), 0) else (0, 0, 20)) :=
    Lib.hid (by rw [nextV, if_neg (by omega), if_neg (by omega)])
  generalize nextV l = V at *
  generalize hxe : rd l 0 = x at *
  have HX := Lib.hid hxe
  clear hxe
  go_enter Try.func29, Try.ntmps29
  go_wp2
  refine wp_scope_jumps 0 (fun a' w' => (w' = w ∧ a'.defers = [] ∧ a'.tmps.size = 97) ∧ V = (0, 0, 20)) (fun _ _ => 0) (by rfl) ?_ ?_
  · go_upto_block 0 with (fail)
    go_cut [5, 6] (fun s5 s6 wx => wx = w ∧ s5 = .int .i32 (ldP x) ∧ s6 = .int .i64 (ldN x))
    case first =>
      by_cases c1 : x / 32 = 6
      · have b1 : (x / 32 == 6) = true := beq_iff_eq.mpr c1
        have e1 : ldP x = x % 32 := by simp [ldP, c1]
        have e2 : ldN x = 2 := by simp [ldN, c1]
        have E1 := Lib.hid e1
        have E2 := Lib.hid e2
        clear e1 e2 c1
        go_wp2
        go_meet
        exact ⟨rfl, by rw [E1.out], by rw [E2.out]; rfl⟩
      · have b1 : (x / 32 == 6) = false := beq_eq_false_iff_ne.mpr c1
        by_cases c2 : x / 16 = 14
        · have b2 : (x / 16 == 14) = true := beq_iff_eq.mpr c2
          have e1 : ldP x = x % 16 := by simp [ldP, c1, c2]
          have e2 : ldN x = 3 := by simp [ldN, c1, c2]
          have E1 := Lib.hid e1
          have E2 := Lib.hid e2
          clear e1 e2 c1 c2
          go_wp2
          go_meet
          exact ⟨rfl, by rw [E1.out], by rw [E2.out]; rfl⟩
        · have b2 : (x / 16 == 14) = false := beq_eq_false_iff_ne.mpr c2
          by_cases c3 : x / 8 = 30
          · have b3 : (x / 8 == 30) = true := beq_iff_eq.mpr c3
            have e1 : ldP x = x % 8 := by simp [ldP, c1, c2, c3]
            have e2 : ldN x = 4 := by simp [ldN, c1, c2, c3]
            have E1 := Lib.hid e1
            have E2 := Lib.hid e2
            clear e1 e2 c1 c2 c3
            go_wp2
            go_meet
            exact ⟨rfl, by rw [E1.out], by rw [E2.out]; rfl⟩
          · have b3 : (x / 8 == 30) = false := beq_eq_false_iff_ne.mpr c3
            have e1 : ldP x = 0 := by simp [ldP, c1, c2, c3]
            have e2 : ldN x = 0 := by simp [ldN, c1, c2, c3]
            have E1 := Lib.hid e1
            have E2 := Lib.hid e2
            clear e1 e2 c1 c2 c3
            go_wp2
            go_meet
            exact ⟨rfl, by rw [E1.out], by rw [E2.out]; rfl⟩
    case rest =>
      obtain ⟨rfl, rfl, rfl⟩ := hcut
      have hPb := ldP_bd x
      have hNc := ldN_cases x
      generalize ldP x = P at *
      generalize ldN x = N at *
      have HN := Lib.hid hNc
      clear hNc
      obtain ⟨hP0, hP1⟩ := hPb
      by_cases hN0 : N = 0
      · have HV2 : V = (0, 0, 20) := by rw [HV.out, if_pos (.inl hN0)]
        subst hN0
        clear HV
        have HV := Lib.hid HV2
        clear HV2
        go_wp2
        go_step3
        exact ⟨rfl, ⟨rfl, rfl, rfl⟩, HV.out⟩
      · have b1 : ((N : Int) == 0) = false := beq_eq_false_iff_ne.mpr (by omega)
        have hN4 : N ≤ 4 := by rcases HN.out with h | h | h | h <;> omega
        have hN2 : 2 ≤ N := by rcases HN.out with h | h | h | h <;> omega
        clear hN0
        by_cases hlt : l.length < N
        · have b2 : decide ((l.length : Int) < (N : Int)) = true := decide_eq_true (by omega)
          have b3 : decide (l.length < N) = true := decide_eq_true (by omega)
          have HV2 : V = (0, 0, 20) := by rw [HV.out, if_pos (.inr hlt)]
          clear HV
          have HV := Lib.hid HV2
          clear HV2
          go_wp2
          go_step3
          exact ⟨rfl, ⟨rfl, rfl, rfl⟩, HV.out⟩
        · have b2 : decide ((l.length : Int) < (N : Int)) = false := decide_eq_false (by omega)
          have b3 : decide (l.length < N) = false := decide_eq_false (by omega)
          obtain ⟨i0, hi0, _, hsz, _⟩ := info_parts infoU8
          obtain ⟨A1, hcut0, hA1, hC1⟩ := print_mid_int (k := .u8) (P := Try.prog) 22 5 Try.underlying22 hi0 hsz (some ad) c l 1 (N : Int) (by omega) (by omega) (by omega) hc
          have hq : ((l.take ((N : Int)).toNat).drop ((1 : Int)).toNat) = tailOf l N := by simp [tailOf]
          have hql : (tailOf l N).length = N - 1 := by simp [tailOf]; omega
          rw [hq] at hcut0 hA1 hC1
          have HR1 := Lib.hid (hA1 _ HR.out)
          have hqb : ∀ j : Nat, 0 ≤ rd (tailOf l N) j ∧ rd (tailOf l N) j ≤ 255 := fun j => by
            have := HB8.out (j + 1)
            by_cases hj : j < (tailOf l N).length
            · have e : rd (tailOf l N) (j : Int) = rd l ((j + 1 : Nat) : Int) := by
                rw [rd_lt _ _ hj, rd_lt _ _ (by omega)]; simp [tailOf, Nat.add_comm]
              rw [e]; exact this
            · have e : rd (tailOf l N) (j : Int) = 0 := by simp [rd, List.getElem?_eq_none (Nat.le_of_not_lt hj)]
              rw [e]; omega
          have HQB := Lib.hid hqb
          have HV2 : V = if contB (tailOf l N) = true ∧ okPN (shiftIn P (tailOf l N)) N = true then (shiftIn P (tailOf l N), N, 0) else (0, 0, 20) := by
            rw [HV.out, if_neg (by omega)]
          clear HV
          have HV := Lib.hid HV2
          clear HV2 hqb hq hA1 hi0 hsz
          generalize tailOf l N = q at *
          have HQL := Lib.hid hql
          have hql3 : q.length ≤ 3 := by omega
          clear hql
          go_wp2
          go_loop [5, 54] (fun s5 s54 => ∃ k : Nat, k ≤ q.length ∧ s54 = .int .i64 k ∧ s5 = .int .i32 (shiftIn P (q.take k)) ∧ Hid (contB (q.take k) = true) ∧ 0 ≤ shiftIn P (q.take k) ∧ shiftIn P (q.take k) < 32 * 64 ^ k) (fun _ s54 => q.length - (intOf s54).toNat)
          case atStart => exact ⟨0, Nat.zero_le _, rfl, rfl, Lib.hid rfl, hP0, by simpa [shiftIn] using hP1⟩
          case round =>
            obtain ⟨k, hk, rfl, rfl, hcont, hs0, hs1⟩ := hrel
            have hs2 : k < q.length → shiftIn P (q.take k) < 131072 := fun h => by
              rcases (show k = 0 ∨ k = 1 ∨ k = 2 by omega) with e | e | e <;> (subst e; simp at hs1 ⊢; omega)
            have HS1 := Lib.hid hs1
            clear hs1
            by_cases hlt : k < q.length
            · replace hs2 := hs2 hlt
              obtain ⟨ad1, hA1e, hcell1⟩ := ReadsInt.at_ HR1.out (k : Int) (by omega) (by omega)
              obtain rfl := hA1e
              simp only [Int.toNat_natCast] at hcell1
              have hcb := HQB.out k
              have ht := take_succ_rd q k hlt
              have hsn : shiftIn P (q.take (k + 1)) = shiftIn P (q.take k) * 64 + rd q (k : Int) % 64 := by rw [ht, shiftIn_snoc]
              have hcn : contB (q.take (k + 1)) = (rd q (k : Int) / 64 == 2) := by
                rw [ht]; simp only [contB, List.all_append]; rw [show (q.take k).all (fun c => c / 64 == 2) = true from hcont.out]; simp
              have HSN := Lib.hid hsn
              have HCN := Lib.hid hcn
              clear hsn hcn ht
              generalize rd q (k : Int) = y at *
              obtain ⟨hy0, hy1⟩ := hcb
              by_cases hy2 : y / 64 = 2
              · have b4 : (y / 64 == 2) = true := beq_iff_eq.mpr hy2
                have b5 : (y / 64 != 2) = false := bne_eq_false_iff_eq.mpr hy2
                clear hy2
                go_wp2
                go_round
                case rel => exact ⟨k + 1, by omega, by go_num, by rw [HSN.out], Lib.hid (by rw [HCN.out]; exact b4), by rw [HSN.out]; omega, by
                  rw [HSN.out]
                  have := HS1.out
                  rw [Int.pow_succ]; omega⟩
                case measure => simp [intOf]; omega
              · have b4 : (y / 64 == 2) = false := beq_eq_false_iff_ne.mpr hy2
                have b5 : (y / 64 != 2) = true := bne_iff_ne.mpr hy2
                clear hy2
                have hV : V = (0, 0, 20) := by
                  rw [HV.out, if_neg]
                  intro h
                  have h1 : contB (q.take (k + 1)) = true := by
                    have := h.1
                    simp only [contB, List.all_eq_true] at this ⊢
                    exact fun z hz => this z (List.mem_of_mem_take hz)
                  rw [HCN.out, b4] at h1
                  cases h1
                clear HV
                have HV := Lib.hid hV
                clear hV
                go_wp2
                go_step3
                exact ⟨rfl, ⟨rfl, rfl, rfl⟩, HV.out⟩
            · have hkq : k = q.length := by omega
              subst hkq
              have hqq : q.take q.length = q := List.take_length
              have hs3 : shiftIn P q < 8388608 := by
                have h9 := HS1.out
                rw [hqq] at h9
                rcases (show q.length = 0 ∨ q.length = 1 ∨ q.length = 2 ∨ q.length = 3 by omega) with e | e | e | e <;> (rw [e] at h9; simp at h9; omega)
              rw [hqq] at hs0 hcont ⊢
              clear hqq hs2 HS1
              have hV2 : V = if okPN (shiftIn P q) N = true then (shiftIn P q, N, 0) else (0, 0, 20) := by
                rw [HV.out, hcont.out]; simp
              clear HV
              have HV := Lib.hid hV2
              clear hV2 hcont
              generalize shiftIn P q = s at *
              rcases hpt : isPt s with _ | _
              · have hV : V = (0, 0, 20) := by rw [HV.out]; simp [okPN, hpt]
                have HP := Lib.hid hpt
                clear HV hpt
                have HV := Lib.hid hV
                clear hV
                go_wp2_with (go_at_call 40; refine (isPoint_any _ _).mono ?_; rintro e w' ⟨rfl, rfl⟩; simp only [HP.out])
                go_step3
                exact ⟨rfl, ⟨rfl, rfl, rfl⟩, HV.out⟩
              · have HP := Lib.hid hpt
                clear hpt
                rcases (show N = 2 ∨ N = 3 ∨ N = 4 by rcases HN.out with h | h | h | h <;> omega) with e | e | e
                · subst e
                  by_cases hlt : s < 128
                  · have hV : V = (0, 0, 20) := by rw [HV.out]; simp [okPN, HP.out, hlt]
                    clear HV
                    have HV := Lib.hid hV
                    clear hV
                    go_wp2_with (go_at_call 40; refine (isPoint_any _ _).mono ?_; rintro e w' ⟨rfl, rfl⟩; simp only [HP.out])
                    go_step3
                    exact ⟨rfl, ⟨rfl, rfl, rfl⟩, HV.out⟩
                  · have hV : V = (s, 2, 0) := by rw [HV.out]; simp [okPN, HP.out, hlt]
                    clear HV
                    have HV := Lib.hid hV
                    clear hV
                    go_wp2_with (go_at_call 40; refine (isPoint_any _ _).mono ?_; rintro e w' ⟨rfl, rfl⟩; simp only [HP.out])
                    refine bodyPost_ret (results_tmp3 rfl _ _ _) rfl ?_
                    rw [HV.out]
                    exact ⟨rfl, rfl⟩
                · subst e
                  by_cases hlt : s < 2048
                  · have hV : V = (0, 0, 20) := by rw [HV.out]; simp [okPN, HP.out, hlt]
                    clear HV
                    have HV := Lib.hid hV
                    clear hV
                    go_wp2_with (go_at_call 40; refine (isPoint_any _ _).mono ?_; rintro e w' ⟨rfl, rfl⟩; simp only [HP.out])
                    go_step3
                    exact ⟨rfl, ⟨rfl, rfl, rfl⟩, HV.out⟩
                  · have hV : V = (s, 3, 0) := by rw [HV.out]; simp [okPN, HP.out, hlt]
                    clear HV
                    have HV := Lib.hid hV
                    clear hV
                    go_wp2_with (go_at_call 40; refine (isPoint_any _ _).mono ?_; rintro e w' ⟨rfl, rfl⟩; simp only [HP.out])
                    refine bodyPost_ret (results_tmp3 rfl _ _ _) rfl ?_
                    rw [HV.out]
                    exact ⟨rfl, rfl⟩
                · subst e
                  by_cases hlt : s < 65536
                  · have hV : V = (0, 0, 20) := by rw [HV.out]; simp [okPN, HP.out, hlt]
                    clear HV
                    have HV := Lib.hid hV
                    clear hV
                    go_wp2_with (go_at_call 40; refine (isPoint_any _ _).mono ?_; rintro e w' ⟨rfl, rfl⟩; simp only [HP.out])
                    go_step3
                    exact ⟨rfl, ⟨rfl, rfl, rfl⟩, HV.out⟩
                  · have hV : V = (s, 4, 0) := by rw [HV.out]; simp [okPN, HP.out, hlt]
                    clear HV
                    have HV := Lib.hid hV
                    clear hV
                    go_wp2_with (go_at_call 40; refine (isPoint_any _ _).mono ?_; rintro e w' ⟨rfl, rfl⟩; simp only [HP.out])
                    refine bodyPost_ret (results_tmp3 rfl _ _ _) rfl ?_
                    rw [HV.out]
                    exact ⟨rfl, rfl⟩
  · rintro a w' ⟨⟨rfl, h1, h2⟩, HV⟩
    have HV := Lib.hid HV
    go_wp2
    refine bodyPost_ret (results_tmp3 rfl _ _ _) rfl ?_
    rw [HV.out]
    simp [h2]
    exact ⟨rfl, rfl⟩
theorem next_any (A : Option Addr) (l : List Int) (c : Nat) (w : World) (hr : ReadsInt w .u8 A l.length l) (hby : Bytes l) (hc : l.length ≤ c) :
    Calls Try.prog 29 #[.slice A l.length c] w (NextEnds w (nextV l)) := by
  by_cases h0 : l.length = 0
  · have e : nextV l = (0, 0, 42) := by rw [nextV, if_pos h0]
    rw [h0, e]
    exact next_nil A c w
  · by_cases hx : rd l 0 < 128
    · have e : nextV l = (rd l 0, 1, 0) := by rw [nextV, if_neg h0, if_pos hx]
      rw [e]
      exact next_lt A l c w hr (by omega) (hby.rd 0).1 hx
    · exact next_ge A l c w hr hby hc (by omega) (by omega)
end Go.Proofs.Ytpbgpbblbohmgaa
