/- The package utf, function by function: what each call comes to. The package utf: Next. The package utf: Points, Text, Valid, Cut. Points and their bytes: the plain law. Texts and their points: the plain laws (there and back, joins, cuts). -/
import Derived.Test.YtpbgpbblbohmgaaXA
namespace Go.Proofs.Ytpbgpbblbohmgaa
open Go.RowKit Go.Proofs.YtpbgpbblbohmgaaW.PrintWords

def isPt (p : Int) : Bool := decide (0 ≤ p ∧ p ≤ 1114111 ∧ (p < 55296 ∨ 57343 < p))
theorem isPt_iff (p : Int) : isPt p = true ↔ (0 ≤ p ∧ p ≤ 1114111 ∧ (p < 55296 ∨ 57343 < p)) := by simp [isPt]

def putB (p : Int) : List Int :=
  if isPt p = false then [] else if p < 128 then [p] else if p < 2048 then [192 + p / 64, 128 + p % 64]
  else if p < 65536 then [224 + p / 4096, 128 + p / 64 % 64, 128 + p % 64] else [240 + p / 262144, 128 + p / 4096 % 64, 128 + p / 64 % 64, 128 + p % 64]
def putE (p : Int) : Int := if isPt p = true then 0 else 20

theorem isPoint_any (p : Int) (w : World) :
    Calls Try.prog 40 #[.int .i32 p] w fun e w' => e = .returned (.bool (isPt p)) ∧ w = w' := by
  go_enter Try.func40, Try.ntmps40
  go_wp2
  all_goals (go_ret; simp [isPt, *]; try omega)

theorem six0 (p : Int) (b : Nat) (w : World) (hc : w.cell? ⟨b, 0, none⟩ = some (.int .i32 p)) :
    Calls Try.prog 41 #[.int .i64 0, .pointer (some ⟨b, 0, none⟩)] w fun e w' => e = .returned (.int .u8 (128 + p % 64)) ∧ w = w' := by
  go_enter Try.func41, Try.ntmps41
  go_wp2
  go_ret
  simp
theorem six6 (p : Int) (b : Nat) (w : World) (hc : w.cell? ⟨b, 0, none⟩ = some (.int .i32 p)) :
    Calls Try.prog 41 #[.int .i64 6, .pointer (some ⟨b, 0, none⟩)] w fun e w' => e = .returned (.int .u8 (128 + p / 64 % 64)) ∧ w = w' := by
  go_enter Try.func41, Try.ntmps41
  go_wp2
  go_ret
  simp
theorem six12 (p : Int) (b : Nat) (w : World) (hc : w.cell? ⟨b, 0, none⟩ = some (.int .i32 p)) :
    Calls Try.prog 41 #[.int .i64 12, .pointer (some ⟨b, 0, none⟩)] w fun e w' => e = .returned (.int .u8 (128 + p / 4096 % 64)) ∧ w = w' := by
  go_enter Try.func41, Try.ntmps41
  go_wp2
  go_ret
  simp

set_option maxHeartbeats 400000 in
theorem put_no (p : Int) (w : World) (h : isPt p = false) :
    Calls Try.prog 28 #[.int .i32 p] w fun e w' => e = .returned (.tuple #[.slice none 0 0, .int .i64 20]) ∧ Below w.heap.size w w' := by
  go_enter Try.func28, Try.ntmps28
  go_wp2_with (go_at_call 40; refine (isPoint_any _ _).mono ?_; rintro e w' ⟨rfl, rfl⟩; simp only [h])
  go_ret2
  exact ⟨rfl, below_first _⟩

def PutEnds (w : World) (xs : List Int) (e : Ending) (w' : World) : Prop :=
  ∃ v, e = .returned (.tuple #[v, .int .i64 0]) ∧ ORow .u8 5 w' w.heap.size v xs ∧ Below w.heap.size w w'

set_option maxHeartbeats 400000 in
theorem put_1 (p : Int) (w : World) (h : isPt p = true) (h0 : 0 ≤ p) (h1 : p < 128) :
    Calls Try.prog 28 #[.int .i32 p] w (PutEnds w [p]) := by
  go_enter Try.func28, Try.ntmps28
  go_wp2_with (go_at_call 40; refine (isPoint_any _ _).mono ?_; rintro e w' ⟨rfl, rfl⟩; simp only [h])
  go_ret2
  refine ⟨.slice (some ⟨w.heap.size + 1, 0, none⟩) 1 1, rfl, ?_, ?_⟩
  · exact ORow.lit .u8 _ _ _ [p] _ 1 _ (by simp) rfl rfl (by simp) (by simp)
  · exact below_alloc (below_first _) _
set_option maxHeartbeats 400000 in
theorem put_2 (p : Int) (w : World) (h : isPt p = true) (h0 : 128 ≤ p) (h1 : p < 2048) :
    Calls Try.prog 28 #[.int .i32 p] w (PutEnds w [192 + p / 64, 128 + p % 64]) := by
  go_enter Try.func28, Try.ntmps28
  go_wp2_with (go_at_call 40; refine (isPoint_any _ _).mono ?_; rintro e w' ⟨rfl, rfl⟩; simp only [h])
  go_region_held3 (fun w' => w'.cell? ⟨w.heap.size, 0, none⟩ = some (.int .i32 p)) (simp [go_sem])
    (first | (go_at_call 41; ((with_reducible refine (six0 p _ _ (by go_simp)).mono ?_); rintro e w' ⟨rfl, rfl⟩)))
  go_wp2
  go_ret2
  refine ⟨.slice (some ⟨w.heap.size + 1, 0, none⟩) 2 2, rfl, ORow.drew ?_, b_drew ?_⟩
  · exact ORow.lit .u8 _ _ _ [192 + p / 64, 128 + p % 64] _ 2 _ (by simp) (by rw [or192 _ (by omega) (by omega)]; rfl) rfl (by simp) (by simp)
  · exact below_alloc (below_first _) _
set_option maxHeartbeats 400000 in
theorem put_3 (p : Int) (w : World) (h : isPt p = true) (h0 : 2048 ≤ p) (h1 : p < 65536) :
    Calls Try.prog 28 #[.int .i32 p] w (PutEnds w [224 + p / 4096, 128 + p / 64 % 64, 128 + p % 64]) := by
  go_enter Try.func28, Try.ntmps28
  go_wp2_with (go_at_call 40; refine (isPoint_any _ _).mono ?_; rintro e w' ⟨rfl, rfl⟩; simp only [h])
  go_region_held3 (fun w' => w'.cell? ⟨w.heap.size, 0, none⟩ = some (.int .i32 p)) (simp [go_sem])
    (first | (go_at_call 41; ((with_reducible refine (six0 p _ _ (by go_simp)).mono ?_); rintro e w' ⟨rfl, rfl⟩)) | (go_at_call 41; ((with_reducible refine (six6 p _ _ (by go_simp)).mono ?_); rintro e w' ⟨rfl, rfl⟩)))
  go_wp2
  go_ret2
  refine ⟨.slice (some ⟨w.heap.size + 1, 0, none⟩) 3 3, rfl, ORow.drew ?_, b_drew ?_⟩
  · exact ORow.lit .u8 _ _ _ [224 + p / 4096, 128 + p / 64 % 64, 128 + p % 64] _ 3 _ (by simp) (by rw [or224 _ (by omega) (by omega)]; rfl) rfl (by simp) (by simp)
  · exact below_alloc (below_first _) _
set_option maxHeartbeats 400000 in
theorem put_4 (p : Int) (w : World) (h : isPt p = true) (h0 : 65536 ≤ p) (h1 : p < 1114112) :
    Calls Try.prog 28 #[.int .i32 p] w (PutEnds w [240 + p / 262144, 128 + p / 4096 % 64, 128 + p / 64 % 64, 128 + p % 64]) := by
  go_enter Try.func28, Try.ntmps28
  go_wp2_with (go_at_call 40; refine (isPoint_any _ _).mono ?_; rintro e w' ⟨rfl, rfl⟩; simp only [h])
  go_region_held3 (fun w' => w'.cell? ⟨w.heap.size, 0, none⟩ = some (.int .i32 p)) (simp [go_sem])
    (first | (go_at_call 41; ((with_reducible refine (six0 p _ _ (by go_simp)).mono ?_); rintro e w' ⟨rfl, rfl⟩)) | (go_at_call 41; ((with_reducible refine (six6 p _ _ (by go_simp)).mono ?_); rintro e w' ⟨rfl, rfl⟩)) | (go_at_call 41; ((with_reducible refine (six12 p _ _ (by go_simp)).mono ?_); rintro e w' ⟨rfl, rfl⟩)))
  go_wp2
  go_ret2
  refine ⟨.slice (some ⟨w.heap.size + 1, 0, none⟩) 4 4, rfl, ORow.drew ?_, b_drew ?_⟩
  · exact ORow.lit .u8 _ _ _ [240 + p / 262144, 128 + p / 4096 % 64, 128 + p / 64 % 64, 128 + p % 64] _ 4 _ (by simp) (by rw [or240 _ (by omega) (by omega)]; rfl) rfl (by simp) (by simp)
  · exact below_alloc (below_first _) _

def PutPost (p : Int) (w : World) (e : Ending) (w' : World) : Prop :=
  ∃ v, e = .returned (.tuple #[v, .int .i64 (putE p)]) ∧ ORow .u8 5 w' w.heap.size v (putB p) ∧ Below w.heap.size w w'
theorem put_any (p : Int) (w : World) : Calls Try.prog 28 #[.int .i32 p] w (PutPost p w) := by
  rcases hp : isPt p with _ | _
  · refine (put_no p w hp).mono fun e w' h => ?_
    obtain ⟨h1, h2⟩ := h
    refine ⟨.slice none 0 0, ?_, ?_, h2⟩
    · rw [h1]; simp [putE, hp]
    · simp only [putB, hp]; exact ORow.nil _ _ _ _
  · have h := (isPt_iff p).1 hp
    have he : putE p = 0 := by simp [putE, hp]
    unfold PutPost
    rw [he]
    by_cases h1 : p < 128
    · have hb : putB p = [p] := by simp [putB, hp, h1]
      rw [hb]; exact put_1 p w hp h.1 h1
    · by_cases h2 : p < 2048
      · have hb : putB p = [192 + p / 64, 128 + p % 64] := by simp [putB, hp, h1, h2]
        rw [hb]; exact put_2 p w hp (by omega) h2
      · by_cases h3 : p < 65536
        · have hb : putB p = [224 + p / 4096, 128 + p / 64 % 64, 128 + p % 64] := by simp [putB, hp, h1, h2, h3]
          rw [hb]; exact put_3 p w hp (by omega) h3
        · have hb : putB p = [240 + p / 262144, 128 + p / 4096 % 64, 128 + p / 64 % 64, 128 + p % 64] := by simp [putB, hp, h1, h2, h3]
          rw [hb]; exact put_4 p w hp (by omega) (by omega)
theorem put_ok (p : Int) (w : World) (h : isPt p = true) : Calls Try.prog 28 #[.int .i32 p] w (PutEnds w (putB p)) := by
  have h1 := put_any p w
  unfold PutPost at h1
  rw [show putE p = 0 by simp [putE, h]] at h1
  exact h1
end Go.Proofs.Ytpbgpbblbohmgaa
namespace Go.Proofs.Ytpbgpbblbohmgaa
open Go.RowKit Go.Proofs.YtpbgpbblbohmgaaW.PrintWords

def ldP (c : Int) : Int := if c / 32 = 6 then c % 32 else if c / 16 = 14 then c % 16 else if c / 8 = 30 then c % 8 else 0
def ldN (c : Int) : Nat := if c / 32 = 6 then 2 else if c / 16 = 14 then 3 else if c / 8 = 30 then 4 else 0
def shiftIn (p : Int) (t : List Int) : Int := t.foldl (fun p c => p * 64 + c % 64) p
def okPN (p : Int) (n : Nat) : Bool := isPt p && !(n == 2 && decide (p < 128)) && !(n == 3 && decide (p < 2048)) && !(n == 4 && decide (p < 65536))
def contB (q : List Int) : Bool := q.all fun c => c / 64 == 2
def tailOf (l : List Int) (n : Nat) : List Int := (l.take n).drop 1
/-- What Next tells: the point, its length, the error. -/
def nextV (l : List Int) : Int × Nat × Int :=
  if l.length = 0 then (0, 0, 42) else if rd l 0 < 128 then (rd l 0, 1, 0) else
  if ldN (rd l 0) = 0 ∨ l.length < ldN (rd l 0) then (0, 0, 20) else
  if contB (tailOf l (ldN (rd l 0))) = true ∧ okPN (shiftIn (ldP (rd l 0)) (tailOf l (ldN (rd l 0)))) (ldN (rd l 0)) = true then (shiftIn (ldP (rd l 0)) (tailOf l (ldN (rd l 0))), ldN (rd l 0), 0) else (0, 0, 20)

theorem shiftIn_snoc (p : Int) (t : List Int) (c : Int) : shiftIn p (t ++ [c]) = shiftIn p t * 64 + c % 64 := by simp [shiftIn, List.foldl_append]
theorem ldN_cases (c : Int) : ldN c = 0 ∨ ldN c = 2 ∨ ldN c = 3 ∨ ldN c = 4 := by unfold ldN; split <;> (try split) <;> (try split) <;> simp
theorem ldP_bd (c : Int) : 0 ≤ ldP c ∧ ldP c < 32 := by unfold ldP; split <;> (try split) <;> (try split) <;> omega
theorem take_succ_rd (q : List Int) (k : Nat) (h : k < q.length) : q.take (k + 1) = q.take k ++ [rd q (k : Int)] := by
  rw [List.take_succ_eq_append_getElem h, rd_lt q k h]

theorem next_nil (A : Option Addr) (c : Nat) (w : World) :
    Calls Try.prog 29 #[.slice A 0 c] w fun e w' => e = .returned (.tuple #[.int .i32 0, .int .i64 0, .int .i64 42]) ∧ w = w' := by
  go_enter Try.func29, Try.ntmps29
  go_wp2
  go_step3
  go_wp2
  rw [Exit.noGoto_ret]
  go_ret3
  exact ⟨rfl, rfl⟩

set_option maxHeartbeats 400000 in
theorem next_lt (A : Option Addr) (l : List Int) (c : Nat) (w : World) (hr : ReadsInt w .u8 A l.length l) (h0 : 0 < l.length) (hx0 : 0 ≤ rd l 0) (hx : rd l 0 < 128) :
    Calls Try.prog 29 #[.slice A l.length c] w fun e w' => e = .returned (.tuple #[.int .i32 (rd l 0), .int .i64 1, .int .i64 0]) ∧ w = w' := by
  obtain ⟨ad, rfl, hcell⟩ := hr.at_ 0 (by omega) (by omega)
  rw [show ((0 : Int)).toNat = 0 from rfl, Addr.add_zero'] at hcell
  have hm := hr.2.1
  clear hr
  go_enter Try.func29, Try.ntmps29
  go_wp2
  go_step3
  go_wp2
  rw [Exit.noGoto_ret]
  go_ret3
  exact ⟨rfl, rfl⟩

def NextEnds (w : World) (r : Int × Nat × Int) (e : Ending) (w' : World) : Prop := e = .returned (.tuple #[.int .i32 r.1, .int .i64 (r.2.1 : Int), .int .i64 r.2.2]) ∧ w = w'

set_option maxRecDepth 100000 in
set_option maxHeartbeats 1000000 in
theorem next_ge (A : Option Addr) (l : List Int) (c : Nat) (w : World) (hr : ReadsInt w .u8 A l.length l) (hby : Bytes l) (hc : l.length ≤ c) (h0 : 0 < l.length) (hx : 128 ≤ rd l 0) :
    Calls Try.prog 29 #[.slice A l.length c] w (NextEnds w (nextV l)) := by
  obtain ⟨ad, rfl, hcell⟩ := hr.at_ 0 (by omega) (by omega)
  rw [show ((0 : Int)).toNat = 0 from rfl, Addr.add_zero'] at hcell
  have hm := hr.2.1
  have HR := Lib.hid hr
  clear hr
  have hb8 := hby.rd
  have hx1 := (hb8 0).2
  clear hby
  have HB8 := Lib.hid hb8
  clear hb8
  have HV : Hid (nextV l = if ldN (rd l 0) = 0 ∨ l.length < ldN (rd l 0) then (0, 0, 20) else
      if contB (tailOf l (ldN (rd l 0))) = true ∧ okPN (shiftIn (ldP (rd l 0)) (tailOf l (ldN (rd l 0)))) (ldN (rd l 0)) = true then (shiftIn (ldP (rd l 0)) (tailOf l (ldN (rd l 0))), ldN (rd l 0), 0) else (0, 0, 20)) :=
    Lib.hid (by rw [nextV, if_neg (by omega), if_neg (by omega)])
  generalize nextV l = V at *
  generalize hxe : rd l 0 = x at *
  have HX := Lib.hid hxe
  clear hxe
  go_enter Try.func29, Try.ntmps29
  go_wp2
  refine wp_scope_jumps 0 (fun a' w' => (w' = w ∧ a'.defers = [] ∧ a'.tmps.size = 97) ∧ V = (0, 0, 20)) (fun _ _ => 0) (by rfl) ?_ ?_
  · go_upto_block 0 with (fail)
    go_cut [5, 6] (fun s5 s6 wx => wx = w ∧ s5 = .int .i32 (ldP x) ∧ s6 = .int .i64 (ldN x))
    case first =>
      by_cases c1 : x / 32 = 6
      · have b1 : (x / 32 == 6) = true := beq_iff_eq.mpr c1
        have e1 : ldP x = x % 32 := by simp [ldP, c1]
        have e2 : ldN x = 2 := by simp [ldN, c1]
        have E1 := Lib.hid e1
        have E2 := Lib.hid e2
        clear e1 e2 c1
        go_wp2
        go_meet
        exact ⟨rfl, by rw [E1.out], by rw [E2.out]; rfl⟩
      · have b1 : (x / 32 == 6) = false := beq_eq_false_iff_ne.mpr c1
        by_cases c2 : x / 16 = 14
        · have b2 : (x / 16 == 14) = true := beq_iff_eq.mpr c2
          have e1 : ldP x = x % 16 := by simp [ldP, c1, c2]
          have e2 : ldN x = 3 := by simp [ldN, c1, c2]
          have E1 := Lib.hid e1
          have E2 := Lib.hid e2
          clear e1 e2 c1 c2
          go_wp2
          go_meet
          exact ⟨rfl, by rw [E1.out], by rw [E2.out]; rfl⟩
        · have b2 : (x / 16 == 14) = false := beq_eq_false_iff_ne.mpr c2
          by_cases c3 : x / 8 = 30
          · have b3 : (x / 8 == 30) = true := beq_iff_eq.mpr c3
            have e1 : ldP x = x % 8 := by simp [ldP, c1, c2, c3]
            have e2 : ldN x = 4 := by simp [ldN, c1, c2, c3]
            have E1 := Lib.hid e1
            have E2 := Lib.hid e2
            clear e1 e2 c1 c2 c3
            go_wp2
            go_meet
            exact ⟨rfl, by rw [E1.out], by rw [E2.out]; rfl⟩
          · have b3 : (x / 8 == 30) = false := beq_eq_false_iff_ne.mpr c3
            have e1 : ldP x = 0 := by simp [ldP, c1, c2, c3]
            have e2 : ldN x = 0 := by simp [ldN, c1, c2, c3]
            have E1 := Lib.hid e1
            have E2 := Lib.hid e2
            clear e1 e2 c1 c2 c3
            go_wp2
            go_meet
            exact ⟨rfl, by rw [E1.out], by rw [E2.out]; rfl⟩
    case rest =>
      obtain ⟨rfl, rfl, rfl⟩ := hcut
      have hPb := ldP_bd x
      have hNc := ldN_cases x
      generalize ldP x = P at *
      generalize ldN x = N at *
      have HN := Lib.hid hNc
      clear hNc
      obtain ⟨hP0, hP1⟩ := hPb
      by_cases hN0 : N = 0
      · have HV2 : V = (0, 0, 20) := by rw [HV.out, if_pos (.inl hN0)]
        subst hN0
        clear HV
        have HV := Lib.hid HV2
        clear HV2
        go_wp2
        go_step3
        exact ⟨rfl, ⟨rfl, rfl, rfl⟩, HV.out⟩
      · have b1 : ((N : Int) == 0) = false := beq_eq_false_iff_ne.mpr (by omega)
        have hN4 : N ≤ 4 := by rcases HN.out with h | h | h | h <;> omega
        have hN2 : 2 ≤ N := by rcases HN.out with h | h | h | h <;> omega
        clear hN0
        by_cases hlt : l.length < N
        · have b2 : decide ((l.length : Int) < (N : Int)) = true := decide_eq_true (by omega)
          have b3 : decide (l.length < N) = true := decide_eq_true (by omega)
          have HV2 : V = (0, 0, 20) := by rw [HV.out, if_pos (.inr hlt)]
          clear HV
          have HV := Lib.hid HV2
          clear HV2
          go_wp2
          go_step3
          exact ⟨rfl, ⟨rfl, rfl, rfl⟩, HV.out⟩
        · have b2 : decide ((l.length : Int) < (N : Int)) = false := decide_eq_false (by omega)
          have b3 : decide (l.length < N) = false := decide_eq_false (by omega)
          obtain ⟨i0, hi0, _, hsz, _⟩ := info_parts infoU8
          obtain ⟨A1, hcut0, hA1, hC1⟩ := print_mid_int (k := .u8) (P := Try.prog) 22 5 Try.underlying22 hi0 hsz (some ad) c l 1 (N : Int) (by omega) (by omega) (by omega) hc
          have hq : ((l.take ((N : Int)).toNat).drop ((1 : Int)).toNat) = tailOf l N := by simp [tailOf]
          have hql : (tailOf l N).length = N - 1 := by simp [tailOf]; omega
          rw [hq] at hcut0 hA1 hC1
          have HR1 := Lib.hid (hA1 _ HR.out)
          have hqb : ∀ j : Nat, 0 ≤ rd (tailOf l N) j ∧ rd (tailOf l N) j ≤ 255 := fun j => by
            have := HB8.out (j + 1)
            by_cases hj : j < (tailOf l N).length
            · have e : rd (tailOf l N) (j : Int) = rd l ((j + 1 : Nat) : Int) := by
                rw [rd_lt _ _ hj, rd_lt _ _ (by omega)]; simp [tailOf, Nat.add_comm]
              rw [e]; exact this
            · have e : rd (tailOf l N) (j : Int) = 0 := by simp [rd, List.getElem?_eq_none (Nat.le_of_not_lt hj)]
              rw [e]; omega
          have HQB := Lib.hid hqb
          have HV2 : V = if contB (tailOf l N) = true ∧ okPN (shiftIn P (tailOf l N)) N = true then (shiftIn P (tailOf l N), N, 0) else (0, 0, 20) := by
            rw [HV.out, if_neg (by omega)]
          clear HV
          have HV := Lib.hid HV2
          clear HV2 hqb hq hA1 hi0 hsz
          generalize tailOf l N = q at *
          have HQL := Lib.hid hql
          have hql3 : q.length ≤ 3 := by omega
          clear hql
          go_wp2
          go_loop [5, 54] (fun s5 s54 => ∃ k : Nat, k ≤ q.length ∧ s54 = .int .i64 k ∧ s5 = .int .i32 (shiftIn P (q.take k)) ∧ Hid (contB (q.take k) = true) ∧ 0 ≤ shiftIn P (q.take k) ∧ shiftIn P (q.take k) < 32 * 64 ^ k) (fun _ s54 => q.length - (intOf s54).toNat)
          case atStart => exact ⟨0, Nat.zero_le _, rfl, rfl, Lib.hid rfl, hP0, by simpa [shiftIn] using hP1⟩
          case round =>
            obtain ⟨k, hk, rfl, rfl, hcont, hs0, hs1⟩ := hrel
            have hs2 : k < q.length → shiftIn P (q.take k) < 131072 := fun h => by
              rcases (show k = 0 ∨ k = 1 ∨ k = 2 by omega) with e | e | e <;> (subst e; simp at hs1 ⊢; omega)
            have HS1 := Lib.hid hs1
            clear hs1
            by_cases hlt : k < q.length
            · replace hs2 := hs2 hlt
              obtain ⟨ad1, hA1e, hcell1⟩ := ReadsInt.at_ HR1.out (k : Int) (by omega) (by omega)
              obtain rfl := hA1e
              simp only [Int.toNat_natCast] at hcell1
              have hcb := HQB.out k
              have ht := take_succ_rd q k hlt
              have hsn : shiftIn P (q.take (k + 1)) = shiftIn P (q.take k) * 64 + rd q (k : Int) % 64 := by rw [ht, shiftIn_snoc]
              have hcn : contB (q.take (k + 1)) = (rd q (k : Int) / 64 == 2) := by
                rw [ht]; simp only [contB, List.all_append]; rw [show (q.take k).all (fun c => c / 64 == 2) = true from hcont.out]; simp
              have HSN := Lib.hid hsn
              have HCN := Lib.hid hcn
              clear hsn hcn ht
              generalize rd q (k : Int) = y at *
              obtain ⟨hy0, hy1⟩ := hcb
              by_cases hy2 : y / 64 = 2
              · have b4 : (y / 64 == 2) = true := beq_iff_eq.mpr hy2
                have b5 : (y / 64 != 2) = false := bne_eq_false_iff_eq.mpr hy2
                clear hy2
                go_wp2
                go_round
                case rel => exact ⟨k + 1, by omega, by go_num, by rw [HSN.out], Lib.hid (by rw [HCN.out]; exact b4), by rw [HSN.out]; omega, by
                  rw [HSN.out]
                  have := HS1.out
                  rw [Int.pow_succ]; omega⟩
                case measure => simp [intOf]; omega
              · have b4 : (y / 64 == 2) = false := beq_eq_false_iff_ne.mpr hy2
                have b5 : (y / 64 != 2) = true := bne_iff_ne.mpr hy2
                clear hy2
                have hV : V = (0, 0, 20) := by
                  rw [HV.out, if_neg]
                  intro h
                  have h1 : contB (q.take (k + 1)) = true := by
                    have := h.1
                    simp only [contB, List.all_eq_true] at this ⊢
                    exact fun z hz => this z (List.mem_of_mem_take hz)
                  rw [HCN.out, b4] at h1
                  cases h1
                clear HV
                have HV := Lib.hid hV
                clear hV
                go_wp2
                go_step3
                exact ⟨rfl, ⟨rfl, rfl, rfl⟩, HV.out⟩
            · have hkq : k = q.length := by omega
              subst hkq
              have hqq : q.take q.length = q := List.take_length
              have hs3 : shiftIn P q < 8388608 := by
                have h9 := HS1.out
                rw [hqq] at h9
                rcases (show q.length = 0 ∨ q.length = 1 ∨ q.length = 2 ∨ q.length = 3 by omega) with e | e | e | e <;> (rw [e] at h9; simp at h9; omega)
              rw [hqq] at hs0 hcont ⊢
              clear hqq hs2 HS1
              have hV2 : V = if okPN (shiftIn P q) N = true then (shiftIn P q, N, 0) else (0, 0, 20) := by
                rw [HV.out, hcont.out]; simp
              clear HV
              have HV := Lib.hid hV2
              clear hV2 hcont
              generalize shiftIn P q = s at *
              rcases hpt : isPt s with _ | _
              · have hV : V = (0, 0, 20) := by rw [HV.out]; simp [okPN, hpt]
                have HP := Lib.hid hpt
                clear HV hpt
                have HV := Lib.hid hV
                clear hV
                go_wp2_with (go_at_call 40; refine (isPoint_any _ _).mono ?_; rintro e w' ⟨rfl, rfl⟩; simp only [HP.out])
                go_step3
                exact ⟨rfl, ⟨rfl, rfl, rfl⟩, HV.out⟩
              · have HP := Lib.hid hpt
                clear hpt
                rcases (show N = 2 ∨ N = 3 ∨ N = 4 by rcases HN.out with h | h | h | h <;> omega) with e | e | e
                · subst e
                  by_cases hlt : s < 128
                  · have hV : V = (0, 0, 20) := by rw [HV.out]; simp [okPN, HP.out, hlt]
                    clear HV
                    have HV := Lib.hid hV
                    clear hV
                    go_wp2_with (go_at_call 40; refine (isPoint_any _ _).mono ?_; rintro e w' ⟨rfl, rfl⟩; simp only [HP.out])
                    go_step3
                    exact ⟨rfl, ⟨rfl, rfl, rfl⟩, HV.out⟩
                  · have hV : V = (s, 2, 0) := by rw [HV.out]; simp [okPN, HP.out, hlt]
                    clear HV
                    have HV := Lib.hid hV
                    clear hV
                    go_wp2_with (go_at_call 40; refine (isPoint_any _ _).mono ?_; rintro e w' ⟨rfl, rfl⟩; simp only [HP.out])
                    refine bodyPost_ret (results_tmp3 rfl _ _ _) rfl ?_
                    rw [HV.out]
                    exact ⟨rfl, rfl⟩
                · subst e
                  by_cases hlt : s < 2048
                  · have hV : V = (0, 0, 20) := by rw [HV.out]; simp [okPN, HP.out, hlt]
                    clear HV
                    have HV := Lib.hid hV
                    clear hV
                    go_wp2_with (go_at_call 40; refine (isPoint_any _ _).mono ?_; rintro e w' ⟨rfl, rfl⟩; simp only [HP.out])
                    go_step3
                    exact ⟨rfl, ⟨rfl, rfl, rfl⟩, HV.out⟩
                  · have hV : V = (s, 3, 0) := by rw [HV.out]; simp [okPN, HP.out, hlt]
                    clear HV
                    have HV := Lib.hid hV
                    clear hV
                    go_wp2_with (go_at_call 40; refine (isPoint_any _ _).mono ?_; rintro e w' ⟨rfl, rfl⟩; simp only [HP.out])
                    refine bodyPost_ret (results_tmp3 rfl _ _ _) rfl ?_
                    rw [HV.out]
                    exact ⟨rfl, rfl⟩
                · subst e
                  by_cases hlt : s < 65536
                  · have hV : V = (0, 0, 20) := by rw [HV.out]; simp [okPN, HP.out, hlt]
                    clear HV
                    have HV := Lib.hid hV
                    clear hV
                    go_wp2_with (go_at_call 40; refine (isPoint_any _ _).mono ?_; rintro e w' ⟨rfl, rfl⟩; simp only [HP.out])
                    go_step3
                    exact ⟨rfl, ⟨rfl, rfl, rfl⟩, HV.out⟩
                  · have hV : V = (s, 4, 0) := by rw [HV.out]; simp [okPN, HP.out, hlt]
                    clear HV
                    have HV := Lib.hid hV
                    clear hV
                    go_wp2_with (go_at_call 40; refine (isPoint_any _ _).mono ?_; rintro e w' ⟨rfl, rfl⟩; simp only [HP.out])
                    refine bodyPost_ret (results_tmp3 rfl _ _ _) rfl ?_
                    rw [HV.out]
                    exact ⟨rfl, rfl⟩
  · rintro a w' ⟨⟨rfl, h1, h2⟩, HV⟩
    have HV := Lib.hid HV
    go_wp2
    refine bodyPost_ret (results_tmp3 rfl _ _ _) rfl ?_
    rw [HV.out]
    simp [h2]
    exact ⟨rfl, rfl⟩
theorem next_any (A : Option Addr) (l : List Int) (c : Nat) (w : World) (hr : ReadsInt w .u8 A l.length l) (hby : Bytes l) (hc : l.length ≤ c) :
    Calls Try.prog 29 #[.slice A l.length c] w (NextEnds w (nextV l)) := by
  by_cases h0 : l.length = 0
  · have e : nextV l = (0, 0, 42) := by rw [nextV, if_pos h0]
    rw [h0, e]
    exact next_nil A c w
  · by_cases hx : rd l 0 < 128
    · have e : nextV l = (rd l 0, 1, 0) := by rw [nextV, if_neg h0, if_pos hx]
      rw [e]
      exact next_lt A l c w hr (by omega) (hby.rd 0).1 hx
    · exact next_ge A l c w hr hby hc (by omega) (by omega)
end Go.Proofs.Ytpbgpbblbohmgaa
namespace Go.Proofs.Ytpbgpbblbohmgaa
open Go.RowKit Go.Proofs.YtpbgpbblbohmgaaW.PrintWords

/-- A text's points, and where there is none. -/
def dec : Nat → List Int → List Int × Option Nat
  | 0, _ => ([], none)
  | f + 1, l => if l.length = 0 then ([], none) else if (nextV l).2.2 = 0 then ((nextV l).1 :: (dec f (l.drop (nextV l).2.1)).1, (dec f (l.drop (nextV l).2.1)).2.map (· + (nextV l).2.1)) else ([], some 0)
def joinD (acc : List Int) (n : Nat) (d : List Int × Option Nat) : List Int × Option Nat := (acc ++ d.1, d.2.map (· + n))

theorem nextV_len (l : List Int) : (nextV l).2.1 ≤ l.length ∧ ((nextV l).2.2 = 0 → 1 ≤ (nextV l).2.1) ∧ ((nextV l).2.2 = 0 ∨ (nextV l).2.2 = 20 ∨ l.length = 0) := by
  unfold nextV
  by_cases h0 : l.length = 0
  · simp [h0]
  · rw [if_neg h0]
    by_cases h1 : rd l 0 < 128
    · rw [if_pos h1]; exact ⟨by show 1 ≤ _; omega, fun _ => Nat.le_refl _, .inl rfl⟩
    · rw [if_neg h1]
      by_cases h2 : ldN (rd l 0) = 0 ∨ l.length < ldN (rd l 0)
      · rw [if_pos h2]; exact ⟨Nat.zero_le _, fun h => by simp at h, .inr (.inl rfl)⟩
      · rw [if_neg h2]
        split
        · exact ⟨by show ldN _ ≤ _; omega, fun _ => by show 1 ≤ ldN _; omega, .inl rfl⟩
        · exact ⟨Nat.zero_le _, fun h => by simp at h, .inr (.inl rfl)⟩

/-- What Points tells: the points, the place, the error. -/
def ptsV (l : List Int) : List Int × Int × Int := match (dec l.length l).2 with | none => ((dec l.length l).1, 0, 0) | some n => ([], n, 20)
def PtsPost (w : World) (r : List Int × Int × Int) (e : Ending) (w' : World) : Prop :=
  ∃ v, e = .returned (.tuple #[v, .agg #[.int .i64 r.2.1, .int .i64 r.2.2]]) ∧ ORow .i32 21 w' w.heap.size v r.1 ∧ Below w.heap.size w w'

theorem dec_step (f : Nat) (l : List Int) (h0 : l.length ≠ 0) (h : (nextV l).2.2 = 0) : dec (f + 1) l = joinD [(nextV l).1] (nextV l).2.1 (dec f (l.drop (nextV l).2.1)) := by
  rw [dec, if_neg h0, if_pos h]; rfl
theorem joinD_joinD (a b : List Int) (m n : Nat) (d : List Int × Option Nat) : joinD a m (joinD b n d) = joinD (a ++ b) (m + n) d := by
  simp only [joinD, List.append_assoc, Option.map_map]
  congr 2
  funext x
  simp; omega

set_option maxRecDepth 100000 in
set_option maxHeartbeats 1000000 in
theorem points_any (A : Option Addr) (l : List Int) (c : Nat) (w : World) (hr : ReadsInt w .u8 A l.length l) (hby : Bytes l) (hc : l.length ≤ c) (hl : l.length ≤ 35184372088832) :
    Calls Try.prog 15 #[.slice A l.length c] w (PtsPost w (ptsV l)) := by
  have HR := Lib.hid hr
  have HBY := Lib.hid hby
  clear hr hby
  go_enter Try.func15, Try.ntmps15
  go_wp2
  go_loopw [4, 5] (fun s4 s5 wr => ∃ (acc : List Int) (n f : Nat), n ≤ l.length ∧ s5 = .int .i64 n ∧ Hid (ORow .i32 21 wr w.heap.size s4 acc) ∧ Hid (wr.heap[w.heap.size]? = some (.cells #[.int .i64 0, .int .i64 0] 26 (0, 0))) ∧ Hid (Below w.heap.size w wr) ∧ Hid (dec l.length l = joinD acc n (dec f (l.drop n))) ∧ Hid (l.length - n ≤ f) ∧ Hid (acc.length ≤ n)) (fun _ s5 _ => l.length - (intOf s5).toNat)
  case atStart =>
    refine ⟨[], 0, l.length, Nat.zero_le _, rfl, Lib.hid (ORow.nil _ _ _ _), Lib.hid ?_, Lib.hid (below_first _), Lib.hid ?_, Lib.hid (by omega), Lib.hid (Nat.zero_le _)⟩
    · exact heap_alloc_new w _
    · simp [joinD]
  case round =>
    obtain ⟨acc, n, f, hn, rfl, HO, HF, HB, HD, Hf, HA⟩ := hrel
    by_cases hlt : n < l.length
    · obtain ⟨i0, hi0, _, hsz, _⟩ := info_parts infoU8
      obtain ⟨A1, hcut0, hA1, hC1⟩ := print_drop_of (P := Try.prog) (Value.int .u8) (0 : Int) 22 5 .i64 Try.underlying22 hi0 hsz A c l (n : Int) (by omega) (by omega) hc
      simp only [Int.toNat_natCast] at hcut0 hA1 hC1
      have hql : (l.drop n).length = l.length - n := List.length_drop
      have HR1 := Lib.hid (hA1 _ (HR.out.below HB.out))
      have HBY1 := Lib.hid (HBY.out.drop n)
      have HQ : Hid (∀ m, l.drop (n + m) = (l.drop n).drop m) := Lib.hid fun m => by rw [List.drop_drop]
      generalize l.drop n = q at *
      have HQL := Lib.hid hql
      clear hql hA1 hi0 hsz
      have hN := nextV_len q
      by_cases he : (nextV q).2.2 = 0
      · obtain ⟨f, rfl⟩ : ∃ f', f = f' + 1 := ⟨f - 1, by have := Hf.out; omega⟩
        have HD2 : Hid (dec l.length l = joinD (acc ++ [(nextV q).1]) (n + (nextV q).2.1) (dec f (l.drop (n + (nextV q).2.1)))) := Lib.hid (by
          rw [HD.out, dec_step f q (by have := HQL.out; omega) he, joinD_joinD, HQ.out])
        rw [he] at hN
        have HE := Lib.hid he
        have hN1 := hN.2.1 rfl
        have hN0 := hN.1
        have HN1 := Lib.hid hN1
        have hnm : n + (nextV q).2.1 ≤ l.length := by have := HQL.out; omega
        have HW : wr.heap.size ≥ w.heap.size := HB.out.size
        clear HD he hN
        have HNV : Hid (nextV q = ((nextV q).1, (nextV q).2.1, 0)) := Lib.hid (by rw [← HE.out])
        generalize (nextV q).1 = p at *
        generalize (nextV q).2.1 = m at *
        have HC := Lib.hid (next_any A1 q _ wr HR1.out HBY1.out hC1)
        simp only [HNV.out] at HC
        go_wp2_with (first
          | (go_at_call 29; ((with_reducible refine HC.out.mono ?_); rintro e w' ⟨rfl, rfl⟩))
          | (at_builtin; refine print_append_num (w0 := w) w.heap.size rfl (.tmp 26) (.tmp 28) 32 21 .i32 4 rfl Try.underlying32 infoI32 (by decide) _ acc p rfl rfl HO.out HB.out HW (by have := HA.out; omega) ?_; intro v1 w1 hO1 hB1 hg1 _; have HO1 := Lib.hid hO1; have HB1 := Lib.hid hB1; have HF1 := Lib.hid ((hg1.block _ (blk_lt HF.out) (own_ne HO.out HF.out (by decide))).trans HF.out); clear hO1 hB1 hg1))
        go_roundw
        case rel => exact ⟨acc ++ [p], n + m, f, hnm, by go_num, HO1, HF1, HB1, HD2, Lib.hid (by have := Hf.out; have := HN1.out; omega), Lib.hid (by have := HA.out; have := HN1.out; simp; omega)⟩
        case measure => simp [intOf]; omega
      · have he2 : (nextV q).2.2 = 20 := by have := HQL.out; rcases hN.2.2 with h | h | h <;> omega
        obtain ⟨f, rfl⟩ : ∃ f', f = f' + 1 := ⟨f - 1, by have := Hf.out; omega⟩
        have hV : ptsV l = ([], (n : Int), 20) := by
          have h1 : dec (f + 1) q = ([], some 0) := by rw [dec, if_neg (by have := HQL.out; omega), if_neg he]
          have h2 := HD.out
          rw [h1] at h2
          simp [ptsV, h2, joinD]
        have HV := Lib.hid hV
        clear hV HD
        have HC := Lib.hid (next_any A1 q _ wr HR1.out HBY1.out hC1)
        have HNV : Hid (nextV q = ((nextV q).1, (nextV q).2.1, 20)) := Lib.hid (by rw [← he2])
        clear he he2 hN
        have c0 : wr.cell? ⟨w.heap.size, 0, none⟩ = some (.int .i64 0) := (blk_cell HF.out 0).trans rfl
        have c1 : wr.cell? ⟨w.heap.size, 1, none⟩ = some (.int .i64 0) := (blk_cell HF.out 1).trans rfl
        have z0 := blk_frozen HF.out 0
        have z1 := blk_frozen HF.out 1
        generalize (nextV q).1 = p at *
        generalize (nextV q).2.1 = m at *
        simp only [HNV.out] at HC
        go_wp2_with (first | (go_at_call 29; ((with_reducible refine HC.out.mono ?_); rintro e w' ⟨rfl, rfl⟩)))
        have HF1 := blk_set (blk_set HF.out 0 (.int .i64 (n : Int))) 1 (.int .i64 20)
        refine bodyPost_ret (results_tc rfl _ _ _ _ _ _ _ rfl HF1 Try.underlying26 rfl (by kernel_rfl)) rfl ?_
        rw [HV.out]
        exact ⟨_, rfl, ORow.nil _ _ _ _, below_set (below_set HB.out (Nat.le_refl _)) (Nat.le_refl _)⟩
    · have hnl : n = l.length := by omega
      have hV : ptsV l = (acc, 0, 0) := by
        have h1 : dec f (l.drop n) = ([], none) := by
          rw [hnl, List.drop_length]; cases f <;> simp [dec]
        have h2 := HD.out
        rw [h1] at h2
        simp [ptsV, h2, joinD]
      have HV := Lib.hid hV
      clear hV HD
      have c0 : wr.cell? ⟨w.heap.size, 0, none⟩ = some (.int .i64 0) := (blk_cell HF.out 0).trans rfl
      have c1 : wr.cell? ⟨w.heap.size, 1, none⟩ = some (.int .i64 0) := (blk_cell HF.out 1).trans rfl
      have z0 := blk_frozen HF.out 0
      have z1 := blk_frozen HF.out 1
      clear hnl
      go_wp2
      have HF1 := blk_set (blk_set HF.out 0 (.int .i64 0)) 1 (.int .i64 0)
      refine bodyPost_ret (results_tc rfl _ _ _ _ _ _ _ rfl HF1 Try.underlying26 rfl (by kernel_rfl)) rfl ?_
      rw [HV.out]
      exact ⟨_, rfl, (HO.out.set_ HF.out (by decide) 0 _).set_ (blk_set HF.out 0 _) (by decide) 1 _, below_set (below_set HB.out (Nat.le_refl _)) (Nat.le_refl _)⟩
/-- Points' bytes, and where there are none. -/
def txt : List Int → List Int × Option Nat
  | [] => ([], none)
  | p :: t => if isPt p = true then (putB p ++ (txt t).1, (txt t).2.map (· + 1)) else ([], some 0)
def txtV (l : List Int) : List Int × Int × Int := match (txt l).2 with | none => ((txt l).1, 0, 0) | some n => ([], n, 20)
theorem putB_len (p : Int) : (putB p).length ≤ 4 := by unfold putB; repeat' split
                                                       all_goals simp
def TxtPost (w : World) (r : List Int × Int × Int) (e : Ending) (w' : World) : Prop :=
  ∃ v, e = .returned (.tuple #[v, .agg #[.int .i64 r.2.1, .int .i64 r.2.2]]) ∧ ORow .u8 5 w' w.heap.size v r.1 ∧ Below w.heap.size w w'

set_option maxRecDepth 100000 in
set_option maxHeartbeats 1000000 in
theorem text_any (A : Option Addr) (l : List Int) (c : Nat) (w : World) (hr : ReadsInt w .i32 A l.length l) (hl : l.length ≤ 35184372088832) :
    Calls Try.prog 21 #[.slice A l.length c] w (TxtPost w (txtV l)) := by
  have HR := Lib.hid hr
  clear hr
  go_enter Try.func21, Try.ntmps21
  go_wp2
  go_loopw [4, 11] (fun s4 s11 wr => ∃ (acc : List Int) (n : Nat), n ≤ l.length ∧ s11 = .int .i64 n ∧ Hid (ORow .u8 5 wr w.heap.size s4 acc) ∧ Hid (wr.heap[w.heap.size]? = some (.cells #[.int .i64 0, .int .i64 0] 26 (0, 0))) ∧ Hid (Below w.heap.size w wr) ∧ Hid (txt l = joinD acc n (txt (l.drop n))) ∧ Hid (acc.length ≤ 4 * n)) (fun _ s11 _ => l.length - (intOf s11).toNat)
  case atStart =>
    refine ⟨[], 0, Nat.zero_le _, rfl, Lib.hid (ORow.nil _ _ _ _), Lib.hid ?_, Lib.hid (below_first _), Lib.hid ?_, Lib.hid (Nat.zero_le _)⟩
    · exact heap_alloc_new w _
    · simp [joinD]
  case round =>
    obtain ⟨acc, n, hn, rfl, HO, HF, HB, HD, HA⟩ := hrel
    have HW : wr.heap.size ≥ w.heap.size := HB.out.size
    by_cases hlt : n < l.length
    · obtain ⟨ad, rfl, hcell⟩ := (HR.out.below HB.out).at_ (n : Int) (by omega) (by omega)
      simp only [Int.toNat_natCast] at hcell
      have HE : Hid (l.drop n = rd l (n : Int) :: l.drop (n + 1)) := Lib.hid (by rw [rd_lt l n hlt]; exact List.drop_eq_getElem_cons hlt)
      generalize rd l (n : Int) = p at *
      rcases hp : isPt p with _ | _
      · have HC := Lib.hid (put_no p wr hp)
        have hV : txtV l = ([], (n : Int), 20) := by
          have h2 := HD.out
          rw [HE.out, txt, if_neg (by rw [hp]; simp)] at h2
          simp [txtV, h2, joinD]
        have HV := Lib.hid hV
        clear hV HD HE hp
        go_wp2_with (first | (go_at_call 28; ((with_reducible refine HC.out.mono ?_); rintro e w1 ⟨rfl, hB1⟩; have HF1 := Lib.hid (blk_below HF.out hB1); have c0 : w1.cell? ⟨w.heap.size, 0, none⟩ = some (.int .i64 0) := (blk_cell HF1.out 0).trans rfl; have c1 : w1.cell? ⟨w.heap.size, 1, none⟩ = some (.int .i64 0) := (blk_cell HF1.out 1).trans rfl; have z0 := blk_frozen HF1.out 0; have z1 := blk_frozen HF1.out 1; have HB1 := Lib.hid (below_then HB.out HW hB1); clear hB1)))
        have HF2 := blk_set (blk_set HF1.out 0 (.int .i64 (n : Int))) 1 (.int .i64 20)
        refine bodyPost_ret (results_tc rfl _ _ _ _ _ _ _ rfl HF2 Try.underlying26 rfl (by kernel_rfl)) rfl ?_
        rw [HV.out]
        exact ⟨_, rfl, ORow.nil _ _ _ _, below_set (below_set HB1.out (Nat.le_refl _)) (Nat.le_refl _)⟩
      · have HC := Lib.hid (put_ok p wr hp)
        have HPL := Lib.hid (putB_len p)
        have HD2 : Hid (txt l = joinD (acc ++ putB p) (n + 1) (txt (l.drop (n + 1)))) := Lib.hid (by
          rw [HD.out, HE.out, txt, if_pos hp]
          simp only [joinD, List.append_assoc, Option.map_map]
          congr 2; funext x; simp; omega)
        clear HD HE hp
        generalize putB p = ps at *
        go_wp2_with (first
          | (go_at_call 28; ((with_reducible refine HC.out.mono ?_); rintro e w1 ⟨v, rfl, hO1, hB1⟩; obtain ⟨A2, c2, rfl, hc2, hR2⟩ := hO1.reads; have HR2 := Lib.hid hR2; have HF1 := Lib.hid (blk_below HF.out hB1); have HB1 := Lib.hid (below_then HB.out HW hB1); have HO2 := Lib.hid (HO.out.below hB1); have HW1 : w1.heap.size ≥ w.heap.size := HB1.out.size; clear hB1 hR2 hO1))
          | (at_builtin; refine print_append_row (w0 := w) w.heap.size rfl (.tmp 26) (.tmp 27) 22 5 .u8 1 rfl Try.underlying22 infoU8 (by decide) _ acc ps _ _ _ rfl rfl HO2.out HR2.out HB1.out HW1 (by have := HA.out; have := HPL.out; omega) ?_; intro v1 w2 hO3 hB3 hg3 _; have HO3 := Lib.hid hO3; have HB3 := Lib.hid hB3; have HF3 := Lib.hid ((hg3.block _ (blk_lt HF1.out) (own_ne HO2.out HF1.out (by decide))).trans HF1.out); clear hO3 hB3 hg3))
        go_roundw
        case rel => exact ⟨acc ++ ps, n + 1, hlt, by go_num, HO3, HF3, HB3, HD2, Lib.hid (by have := HA.out; have := HPL.out; simp; omega)⟩
        case measure => simp [intOf]; omega
    · have hnl : n = l.length := by omega
      have hV : txtV l = (acc, 0, 0) := by
        have h2 := HD.out
        rw [hnl, List.drop_length] at h2
        simp [txtV, h2, joinD, txt]
      have HV := Lib.hid hV
      clear hV HD
      have c0 : wr.cell? ⟨w.heap.size, 0, none⟩ = some (.int .i64 0) := (blk_cell HF.out 0).trans rfl
      have c1 : wr.cell? ⟨w.heap.size, 1, none⟩ = some (.int .i64 0) := (blk_cell HF.out 1).trans rfl
      have z0 := blk_frozen HF.out 0
      have z1 := blk_frozen HF.out 1
      clear hnl
      go_wp2
      have HF1 := blk_set (blk_set HF.out 0 (.int .i64 0)) 1 (.int .i64 0)
      refine bodyPost_ret (results_tc rfl _ _ _ _ _ _ _ rfl HF1 Try.underlying26 rfl (by kernel_rfl)) rfl ?_
      rw [HV.out]
      exact ⟨_, rfl, (HO.out.set_ HF.out (by decide) 0 _).set_ (blk_set HF.out 0 _) (by decide) 1 _, below_set (below_set HB.out (Nat.le_refl _)) (Nat.le_refl _)⟩

/-- Is a text valid? -/
def vldV (l : List Int) : Bool := (dec l.length l).2.isNone
theorem ptsV_code (l : List Int) : (ptsV l).2.2 = if vldV l = true then 0 else 20 := by
  unfold ptsV vldV
  cases (dec l.length l).2 <;> simp

set_option maxRecDepth 100000 in
set_option maxHeartbeats 400000 in
theorem valid_any (A : Option Addr) (l : List Int) (c : Nat) (w : World) (hr : ReadsInt w .u8 A l.length l) (hby : Bytes l) (hc : l.length ≤ c) (hl : l.length ≤ 35184372088832) :
    Calls Try.prog 16 #[.slice A l.length c] w fun e w' => e = .returned (.bool (vldV l)) ∧ Below w.heap.size w w' := by
  have HC := Lib.hid (points_any A l c w hr hby hc hl)
  have HE := Lib.hid (ptsV_code l)
  clear hr hby
  rcases hv : vldV l with _ | _
  all_goals
    rw [hv] at HE
    simp at HE
    go_enter Try.func16, Try.ntmps16
    go_wp2_with (first | (go_at_call 15; ((with_reducible refine HC.out.mono ?_); rintro e w1 ⟨v, rfl, hO1, hB1⟩; rw [HE.out]; have HB1 := Lib.hid hB1; clear hO1 hB1)))
    go_ret
    exact ⟨rfl, below_alloc HB1.out _⟩

end Go.Proofs.Ytpbgpbblbohmgaa
namespace Go.Proofs.Ytpbgpbblbohmgaa
open Go.RowKit Go.Proofs.YtpbgpbblbohmgaaW.PrintWords

theorem take_eq_one {l : List Int} {a : Int} : l.take 1 = [a] ↔ 1 ≤ l.length ∧ rd l 0 = a := by
  rcases l with _ | ⟨x, t⟩
  · simp
  · simp [rd]
theorem take_eq_two {l : List Int} {a b : Int} : l.take 2 = [a, b] ↔ 2 ≤ l.length ∧ rd l 0 = a ∧ rd l 1 = b := by
  rcases l with _ | ⟨x, _ | ⟨y, t⟩⟩
  · simp
  · simp
  · simp [rd]
theorem take_eq_three {l : List Int} {a b c : Int} : l.take 3 = [a, b, c] ↔ 3 ≤ l.length ∧ rd l 0 = a ∧ rd l 1 = b ∧ rd l 2 = c := by
  rcases l with _ | ⟨x, _ | ⟨y, _ | ⟨z, t⟩⟩⟩
  · simp
  · simp
  · simp
  · simp [rd]
theorem take_eq_four {l : List Int} {a b c d : Int} : l.take 4 = [a, b, c, d] ↔ 4 ≤ l.length ∧ rd l 0 = a ∧ rd l 1 = b ∧ rd l 2 = c ∧ rd l 3 = d := by
  rcases l with _ | ⟨x, _ | ⟨y, _ | ⟨z, _ | ⟨u, t⟩⟩⟩⟩
  · simp
  · simp
  · simp
  · simp
  · simp [rd]
theorem tail_two {l : List Int} (h : 2 ≤ l.length) : tailOf l 2 = [rd l 1] := by
  rcases l with _ | ⟨x, _ | ⟨y, t⟩⟩
  · simp at h
  · simp at h
  · simp [tailOf, rd]
theorem tail_three {l : List Int} (h : 3 ≤ l.length) : tailOf l 3 = [rd l 1, rd l 2] := by
  rcases l with _ | ⟨x, _ | ⟨y, _ | ⟨z, t⟩⟩⟩
  · simp at h
  · simp at h
  · simp at h
  · simp [tailOf, rd]
theorem tail_four {l : List Int} (h : 4 ≤ l.length) : tailOf l 4 = [rd l 1, rd l 2, rd l 3] := by
  rcases l with _ | ⟨x, _ | ⟨y, _ | ⟨z, _ | ⟨u, t⟩⟩⟩⟩
  · simp at h
  · simp at h
  · simp at h
  · simp at h
  · simp [tailOf, rd]

theorem ok_two (p : Int) : okPN p 2 = true ↔ isPt p = true ∧ 128 ≤ p := by simp [okPN]
theorem ok_three (p : Int) : okPN p 3 = true ↔ isPt p = true ∧ 2048 ≤ p := by simp [okPN]
theorem ok_four (p : Int) : okPN p 4 = true ↔ isPt p = true ∧ 65536 ≤ p := by simp [okPN]
/-- putB, case by case. -/
theorem putB_one {p : Int} (h : isPt p = true) (h1 : p < 128) : putB p = [p] := by simp [putB, h, h1]
theorem putB_two {p : Int} (h : isPt p = true) (h1 : 128 ≤ p) (h2 : p < 2048) : putB p = [192 + p / 64, 128 + p % 64] := by
  simp [putB, h, h2]; omega
theorem putB_three {p : Int} (h : isPt p = true) (h1 : 2048 ≤ p) (h2 : p < 65536) : putB p = [224 + p / 4096, 128 + p / 64 % 64, 128 + p % 64] := by
  simp only [putB, h]; rw [if_neg (by simp), if_neg (by omega), if_neg (by omega), if_pos h2]
theorem putB_four {p : Int} (h : isPt p = true) (h1 : 65536 ≤ p) : putB p = [240 + p / 262144, 128 + p / 4096 % 64, 128 + p / 64 % 64, 128 + p % 64] := by
  simp only [putB, h]; rw [if_neg (by simp), if_neg (by omega), if_neg (by omega), if_neg (by omega)]
theorem isPt_bd {p : Int} (h : isPt p = true) : 0 ≤ p ∧ p ≤ 1114111 ∧ (p < 55296 ∨ 57343 < p) := (isPt_iff p).1 h

/-- A point's bytes at a text's front are told as that point. -/
theorem nextV_put (p : Int) (l : List Int) (h : isPt p = true) (hl : l.take (putB p).length = putB p) : nextV l = (p, (putB p).length, 0) := by
  have hb := isPt_bd h
  by_cases h1 : p < 128
  · rw [putB_one h h1] at hl ⊢
    obtain ⟨hn, hx⟩ := take_eq_one.1 hl
    rw [nextV, if_neg (by omega), if_pos (by omega), hx]; rfl
  · by_cases h2 : p < 2048
    · rw [putB_two h (by omega) h2] at hl ⊢
      obtain ⟨hn, hx, hy⟩ := take_eq_two.1 hl
      have e1 : ldN (rd l 0) = 2 := by rw [ldN, if_pos (by omega)]
      have e2 : ldP (rd l 0) = rd l 0 % 32 := by rw [ldP, if_pos (by omega)]
      have e3 : shiftIn (rd l 0 % 32) [rd l 1] = p := by simp only [shiftIn, List.foldl]; omega
      rw [nextV, if_neg (by omega), if_neg (by omega), e1, e2, tail_two hn, e3, if_neg (by omega), if_pos]
      · rfl
      · refine ⟨?_, ?_⟩
        · simp [contB]; omega
        · simp [okPN, h]; omega
    · by_cases h3 : p < 65536
      · rw [putB_three h (by omega) h3] at hl ⊢
        obtain ⟨hn, hx, hy, hz⟩ := take_eq_three.1 hl
        have e1 : ldN (rd l 0) = 3 := by rw [ldN, if_neg (by omega), if_pos (by omega)]
        have e2 : ldP (rd l 0) = rd l 0 % 16 := by rw [ldP, if_neg (by omega), if_pos (by omega)]
        have e3 : shiftIn (rd l 0 % 16) [rd l 1, rd l 2] = p := by simp only [shiftIn, List.foldl]; omega
        rw [nextV, if_neg (by omega), if_neg (by omega), e1, e2, tail_three hn, e3, if_neg (by omega), if_pos]
        · rfl
        · refine ⟨?_, ?_⟩
          · simp [contB]; omega
          · simp [okPN, h]; omega
      · rw [putB_four h (by omega)] at hl ⊢
        obtain ⟨hn, hx, hy, hz, hu⟩ := take_eq_four.1 hl
        have e1 : ldN (rd l 0) = 4 := by rw [ldN, if_neg (by omega), if_neg (by omega), if_pos (by omega)]
        have e2 : ldP (rd l 0) = rd l 0 % 8 := by rw [ldP, if_neg (by omega), if_neg (by omega), if_pos (by omega)]
        have e3 : shiftIn (rd l 0 % 8) [rd l 1, rd l 2, rd l 3] = p := by simp only [shiftIn, List.foldl]; omega
        rw [nextV, if_neg (by omega), if_neg (by omega), e1, e2, tail_four hn, e3, if_neg (by omega), if_pos]
        · rfl
        · refine ⟨?_, ?_⟩
          · simp [contB]; omega
          · simp [okPN, h]; omega

/-- What Next tells is a point whose bytes stand there. -/
theorem nextV_ok (l : List Int) (hby : Bytes l) (h : (nextV l).2.2 = 0) : isPt (nextV l).1 = true ∧ l.take (nextV l).2.1 = putB (nextV l).1 ∧ (putB (nextV l).1).length = (nextV l).2.1 := by
  have b0 := hby.rd 0
  have b1 := hby.rd 1
  have b2 := hby.rd 2
  have b3 := hby.rd 3
  simp only [Int.natCast_zero, Int.natCast_one] at b0 b1
  rw [show ((2 : Nat) : Int) = 2 from rfl] at b2
  rw [show ((3 : Nat) : Int) = 3 from rfl] at b3
  unfold nextV at h ⊢
  by_cases h0 : l.length = 0
  · rw [if_pos h0] at h; simp at h
  · rw [if_neg h0] at h ⊢
    by_cases h1 : rd l 0 < 128
    · rw [if_pos h1] at h ⊢
      have hp : isPt (rd l 0) = true := (isPt_iff _).2 (by omega)
      exact ⟨hp, by rw [putB_one hp h1]; exact take_eq_one.2 ⟨by omega, rfl⟩, by rw [putB_one hp h1]; rfl⟩
    · rw [if_neg h1] at h ⊢
      by_cases h2 : ldN (rd l 0) = 0 ∨ l.length < ldN (rd l 0)
      · rw [if_pos h2] at h; simp at h
      · rw [if_neg h2] at h ⊢
        by_cases h3 : contB (tailOf l (ldN (rd l 0))) = true ∧ okPN (shiftIn (ldP (rd l 0)) (tailOf l (ldN (rd l 0)))) (ldN (rd l 0)) = true
        · rw [if_pos h3]
          have hln : ldN (rd l 0) ≤ l.length := by omega
          obtain ⟨hc, ho⟩ := h3
          rcases ldN_cases (rd l 0) with e | e | e | e
          · exact absurd (.inl e) h2
          · rw [e] at hc ho hln ⊢
            have hq : rd l 0 / 32 = 6 := by
              unfold ldN at e; split at e
              · assumption
              · split at e <;> (try split at e) <;> simp at e
            rw [tail_two hln] at hc ho ⊢
            rw [ldP, if_pos hq] at ho ⊢
            simp [contB] at hc
            rw [ok_two] at ho
            simp only [shiftIn, List.foldl] at ho
            simp only [shiftIn, List.foldl]
            have hpt := ho.1
            have hpm := ho.2
            refine ⟨hpt, ?_, ?_⟩
            · rw [putB_two hpt (by omega) (by omega)]; exact take_eq_two.2 ⟨hln, by omega, by omega⟩
            · rw [putB_two hpt (by omega) (by omega)]; rfl
          · rw [e] at hc ho hln ⊢
            have hq : ¬ rd l 0 / 32 = 6 ∧ rd l 0 / 16 = 14 := by
              unfold ldN at e; split at e
              · simp at e
              · split at e
                · exact ⟨by assumption, by assumption⟩
                · split at e <;> simp at e
            rw [tail_three hln] at hc ho ⊢
            rw [ldP, if_neg hq.1, if_pos hq.2] at ho ⊢
            simp [contB] at hc
            rw [ok_three] at ho
            simp only [shiftIn, List.foldl] at ho
            simp only [shiftIn, List.foldl]
            have hpt := ho.1
            have hpm := ho.2
            refine ⟨hpt, ?_, ?_⟩
            · rw [putB_three hpt (by omega) (by omega)]; exact take_eq_three.2 ⟨hln, by omega, by omega, by omega⟩
            · rw [putB_three hpt (by omega) (by omega)]; rfl
          · rw [e] at hc ho hln ⊢
            have hq : ¬ rd l 0 / 32 = 6 ∧ ¬ rd l 0 / 16 = 14 ∧ rd l 0 / 8 = 30 := by
              unfold ldN at e; split at e
              · simp at e
              · split at e
                · simp at e
                · split at e
                  · exact ⟨by assumption, by assumption, by assumption⟩
                  · simp at e
            rw [tail_four hln] at hc ho ⊢
            rw [ldP, if_neg hq.1, if_neg hq.2.1, if_pos hq.2.2] at ho ⊢
            simp [contB] at hc
            rw [ok_four] at ho
            simp only [shiftIn, List.foldl] at ho
            simp only [shiftIn, List.foldl]
            have hpt := ho.1
            have hpm := ho.2
            have hbd := isPt_bd hpt
            refine ⟨hpt, ?_, ?_⟩
            · rw [putB_four hpt (by omega)]; exact take_eq_four.2 ⟨hln, by omega, by omega, by omega, by omega⟩
            · rw [putB_four hpt (by omega)]; rfl
        · rw [if_neg h3] at h; simp at h
end Go.Proofs.Ytpbgpbblbohmgaa
namespace Go.Proofs.Ytpbgpbblbohmgaa
open Go.RowKit Go.Proofs.YtpbgpbblbohmgaaW.PrintWords

theorem putB_bytes (p : Int) : Bytes (putB p) := by
  rcases hp : isPt p with _ | _
  · rw [show putB p = [] by simp [putB, hp]]; exact fun x hx => by cases hx
  · have hb := isPt_bd hp
    by_cases h1 : p < 128
    · rw [putB_one hp h1]; intro x hx; simp at hx; omega
    · by_cases h2 : p < 2048
      · rw [putB_two hp (by omega) h2]; intro x hx; simp at hx; omega
      · by_cases h3 : p < 65536
        · rw [putB_three hp (by omega) h3]; intro x hx; simp at hx; omega
        · rw [putB_four hp (by omega)]; intro x hx; simp at hx; omega

theorem putB_pos (p : Int) (h : isPt p = true) : 1 ≤ (putB p).length := by
  have hb := isPt_bd h
  by_cases c1 : p < 128
  · rw [putB_one h c1]; simp
  · by_cases c2 : p < 2048
    · rw [putB_two h (by omega) c2]; simp
    · by_cases c3 : p < 65536
      · rw [putB_three h (by omega) c3]; simp
      · rw [putB_four h (by omega)]; simp
/-- Points' bytes, one behind the other. -/
def encB : List Int → List Int
  | [] => []
  | p :: t => putB p ++ encB t
def allPt (l : List Int) : Prop := ∀ p ∈ l, isPt p = true
theorem encB_append : ∀ a b : List Int, encB (a ++ b) = encB a ++ encB b
  | [], _ => rfl
  | p :: t, b => by rw [List.cons_append, encB, encB, encB_append t b, List.append_assoc]
theorem encB_bytes : ∀ l : List Int, Bytes (encB l)
  | [] => fun x hx => by cases hx
  | p :: t => (putB_bytes p).append (encB_bytes t)
theorem allPt_cons {p : Int} {t : List Int} (h : allPt (p :: t)) : isPt p = true ∧ allPt t := ⟨h p List.mem_cons_self, fun q hq => h q (List.mem_cons_of_mem _ hq)⟩
theorem allPt_append {a b : List Int} (h : allPt a) (k : allPt b) : allPt (a ++ b) := fun x hx => (List.mem_append.1 hx).elim (h x) (k x)

/-- More rounds than bytes tell nothing more. -/
theorem dec_fuel (l : List Int) : ∀ f, l.length ≤ f → dec f l = dec l.length l := by
  generalize hn : l.length = n
  induction n using Nat.strongRecOn generalizing l with
  | _ n ih =>
    intro f hf
    rcases Nat.eq_zero_or_pos n with h0 | h0
    · subst h0
      cases f with
      | zero => rfl
      | succ f => simp [dec, hn]
    · obtain ⟨f, rfl⟩ : ∃ g, f = g + 1 := ⟨f - 1, by omega⟩
      obtain ⟨n, rfl⟩ : ∃ g, n = g + 1 := ⟨n - 1, by omega⟩
      by_cases he : (nextV l).2.2 = 0
      · have h1 := nextV_len l
        have h2 := h1.2.1 he
        have hd : (l.drop (nextV l).2.1).length = l.length - (nextV l).2.1 := List.length_drop
        rw [dec_step f l (by omega) he, dec_step n l (by omega) he]
        rw [ih _ (by omega) (l.drop (nextV l).2.1) rfl f (by omega), ih _ (by omega) (l.drop (nextV l).2.1) rfl n (by omega)]
      · rw [dec, if_neg (by omega), if_neg he, dec, if_neg (by omega), if_neg he]
/-- Points' bytes, and a text behind them. -/
theorem dec_enc : ∀ (ps r : List Int) (f : Nat), allPt ps → (encB ps ++ r).length ≤ f → dec f (encB ps ++ r) = joinD ps (encB ps).length (dec r.length r)
  | [], r, f, _, hf => by
    have : encB [] ++ r = r := rfl
    rw [this] at hf ⊢
    rw [dec_fuel r f hf]
    simp [joinD, encB]
  | p :: t, r, f, h, hf => by
    obtain ⟨hp, ht⟩ := allPt_cons h
    have hpos := putB_pos p hp
    have e : encB (p :: t) ++ r = putB p ++ (encB t ++ r) := by rw [encB, List.append_assoc]
    rw [e] at hf ⊢
    have hnv : nextV (putB p ++ (encB t ++ r)) = (p, (putB p).length, 0) := nextV_put p _ hp (by rw [List.take_left])
    rw [List.length_append] at hf
    obtain ⟨f, rfl⟩ : ∃ g, f = g + 1 := ⟨f - 1, by omega⟩
    rw [dec_step f _ (by rw [List.length_append]; omega) (by rw [hnv]), hnv]
    simp only
    rw [List.drop_left, dec_enc t r f ht (by omega), joinD_joinD]
    simp [encB]
/-- What is valid is points' bytes. -/
theorem dec_sound (l : List Int) (hby : Bytes l) : ∀ f, l.length ≤ f → (dec f l).2 = none → l = encB (dec f l).1 ∧ allPt (dec f l).1 := by
  generalize hn : l.length = n
  induction n using Nat.strongRecOn generalizing l with
  | _ n ih =>
    intro f hf hd
    rcases Nat.eq_zero_or_pos n with h0 | h0
    · have hl : l = [] := List.eq_nil_of_length_eq_zero (by omega)
      subst hl
      cases f <;> simp [dec, encB, allPt]
    · obtain ⟨f, rfl⟩ : ∃ g, f = g + 1 := ⟨f - 1, by omega⟩
      by_cases he : (nextV l).2.2 = 0
      · have h1 := nextV_len l
        have h2 := h1.2.1 he
        have hdl : (l.drop (nextV l).2.1).length = l.length - (nextV l).2.1 := List.length_drop
        rw [dec_step f l (by omega) he] at hd ⊢
        simp only [joinD, Option.map_eq_none_iff] at hd
        obtain ⟨h3, h4⟩ := ih _ (by omega) (l.drop (nextV l).2.1) (hby.drop _) rfl f (by omega) hd
        obtain ⟨h5, h6, _⟩ := nextV_ok l hby he
        refine ⟨?_, ?_⟩
        · show l = encB ([(nextV l).1] ++ (dec f (l.drop (nextV l).2.1)).1)
          rw [encB_append, ← h3]
          show l = (putB (nextV l).1 ++ []) ++ _
          rw [List.append_nil, ← h6, List.take_append_drop]
        · exact allPt_append (fun q hq => by simp at hq; rw [hq]; exact h5) h4
      · rw [dec, if_neg (by omega), if_neg he] at hd; simp at hd
theorem vld_iff (l : List Int) (hby : Bytes l) : vldV l = true ↔ ∃ ps, allPt ps ∧ l = encB ps := by
  constructor
  · intro h
    have h1 : (dec l.length l).2 = none := by simpa [vldV] using h
    obtain ⟨h2, h3⟩ := dec_sound l hby _ (Nat.le_refl _) h1
    exact ⟨_, h3, h2⟩
  · rintro ⟨ps, h, rfl⟩
    have h1 := dec_enc ps [] (encB ps).length h (by simp)
    rw [List.append_nil] at h1
    simp [vldV, h1, joinD, dec]
theorem pts_enc (ps : List Int) (h : allPt ps) : ptsV (encB ps) = (ps, 0, 0) := by
  have h1 := dec_enc ps [] (encB ps).length h (by simp)
  rw [List.append_nil] at h1
  simp [ptsV, h1, joinD, dec]
theorem txt_enc : ∀ ps : List Int, allPt ps → txt ps = (encB ps, none)
  | [], _ => rfl
  | p :: t, h => by
    obtain ⟨hp, ht⟩ := allPt_cons h
    rw [txt, if_pos hp, txt_enc t ht]; rfl
theorem txt_ok : ∀ l : List Int, (txt l).2 = none → allPt l
  | [], _ => fun x hx => by cases hx
  | p :: t, h => by
    by_cases hp : isPt p = true
    · rw [txt, if_pos hp] at h
      simp only [Option.map_eq_none_iff] at h
      have := txt_ok t h
      intro q hq
      rcases List.mem_cons.1 hq with e | e
      · rw [e]; exact hp
      · exact this q e
    · rw [txt, if_neg hp] at h; simp at h
theorem txtV_code (l : List Int) : ((txtV l).2.2 = 0 ∧ allPt l ∧ txtV l = (encB l, 0, 0)) ∨ (txtV l).2.2 = 20 := by
  rcases h : (txt l).2 with _ | n
  · have h1 := txt_ok l h
    left
    have h2 : txtV l = (encB l, 0, 0) := by simp [txtV, txt_enc l h1]
    exact ⟨by rw [h2], h1, h2⟩
  · right
    simp [txtV, h]
theorem ptsV_valid (l : List Int) (hby : Bytes l) (h : vldV l = true) : ∃ ps, allPt ps ∧ l = encB ps ∧ ptsV l = (ps, 0, 0) := by
  obtain ⟨ps, h1, rfl⟩ := (vld_iff l hby).1 h
  exact ⟨ps, h1, rfl, pts_enc ps h1⟩
/-- Two texts, the first of them valid. -/
theorem pts_join (a b : List Int) (ha : Bytes a) (hv : vldV a = true) : ptsV (a ++ b) = if vldV b = true then ((ptsV a).1 ++ (ptsV b).1, 0, 0) else ([], (ptsV b).2.1 + a.length, 20) := by
  obtain ⟨ps, h1, rfl, h3⟩ := ptsV_valid a ha hv
  have h4 := dec_enc ps b (encB ps ++ b).length h1 (Nat.le_refl _)
  rw [h3]
  rcases h5 : (dec b.length b).2 with _ | n
  · have h6 : vldV b = true := by simp [vldV, h5]
    rw [if_pos h6]
    unfold ptsV
    rw [h4]
    simp [joinD, h5]
  · have h6 : ¬ vldV b = true := by simp [vldV, h5]
    rw [if_neg h6]
    unfold ptsV
    rw [h4]
    simp [joinD, h5]
end Go.Proofs.Ytpbgpbblbohmgaa
