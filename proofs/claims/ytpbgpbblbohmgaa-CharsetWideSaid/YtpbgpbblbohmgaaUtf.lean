/- The package utf, function by function: what each call comes to. -/
import Derived.Test.YtpbgpbblbohmgaaBase
namespace Go.Proofs.Ytpbgpbblbohmgaa
open Go.RowKit Go.Proofs.YtpbgpbblbohmgaaW.PrintWords

def isPt (p : Int) : Bool := decide (0 ≤ p ∧ p ≤ 1114111 ∧ (p < 55296 ∨ 57343 < p))
theorem isPt_iff (p : Int) : isPt p = true ↔ (0 ≤ p ∧ p ≤ 1114111 ∧ (p < 55296 ∨ 57343 < p)) := by simp [isPt]

def putB (p : Int) : List Int :=
  if isPt p = false then [] else if p < 128 then [p] else if p < 2048 then [192 + p / 64, 128 + p % 64]
  else if p < 65536 then [224 + p / 4096, 128 + p / 64 % 64, 128 + p % 64] else [240 + p / 262144, 128 + p / 4096 % 64, 128 + p / 64 % 64, 128 + p % 64]
def putE (p : Int) : Int := if isPt p = true then 0 else 20

theorem isPoint_any (p : Int) (w : World) :
    Calls Try.prog 40 #[.int .i32 p] w fun e w' => e = .returned (.bool (isPt p)) ∧ w = w' := by
  go_enter Try.func40, Try.ntmps40
  go_wp2
  all_goals (go_ret; simp [isPt, *]; try omega)

theorem six0 (p : Int) (b : Nat) (w : World) (hc : w.cell? ⟨b, 0, none⟩ = some (.int .i32 p)) :
    Calls Try.prog 41 #[.int .i64 0, .pointer (some ⟨b, 0, none⟩)] w fun e w' => e = .returned (.int .u8 (128 + p % 64)) ∧ w = w' := by
  go_enter Try.func41, Try.ntmps41
  go_wp2
  go_ret
  simp
theorem six6 (p : Int) (b : Nat) (w : World) (hc : w.cell? ⟨b, 0, none⟩ = some (.int .i32 p)) :
    Calls Try.prog 41 #[.int .i64 6, .pointer (some ⟨b, 0, none⟩)] w fun e w' => e = .returned (.int .u8 (128 + p / 64 % 64)) ∧ w = w' := by
  go_enter Try.func41, Try.ntmps41
  go_wp2
  go_ret
  simp
theorem six12 (p : Int) (b : Nat) (w : World) (hc : w.cell? ⟨b, 0, none⟩ = some (.int .i32 p)) :
    Calls Try.prog 41 #[.int .i64 12, .pointer (some ⟨b, 0, none⟩)] w fun e w' => e = .returned (.int .u8 (128 + p / 4096 % 64)) ∧ w = w' := by
  go_enter Try.func41, Try.ntmps41
  go_wp2
  go_ret
  simp

set_option maxHeartbeats 400000 in
theorem put_no (p : Int) (w : World) (h : isPt p = false) :
    Calls Try.prog 28 #[.int .i32 p] w fun e w' => e = .returned (.tuple #[.slice none 0 0, .int .i64 20]) ∧ Below w.heap.size w w' := by
  go_enter Try.func28, Try.ntmps28
  go_wp2_with (go_at_call 40; refine (isPoint_any _ _).mono ?_; rintro e w' ⟨rfl, rfl⟩; simp only [h])
  go_ret2
  exact ⟨rfl, below_first _⟩

def PutEnds (w : World) (xs : List Int) (e : Ending) (w' : World) : Prop :=
  ∃ v, e = .returned (.tuple #[v, .int .i64 0]) ∧ ORow .u8 5 w' w.heap.size v xs ∧ Below w.heap.size w w'

set_option maxHeartbeats 400000 in
theorem put_1 (p : Int) (w : World) (h : isPt p = true) (h0 : 0 ≤ p) (h1 : p < 128) :
    Calls Try.prog 28 #[.int .i32 p] w (PutEnds w [p]) := by
  go_enter Try.func28, Try.ntmps28
  go_wp2_with (go_at_call 40; refine (isPoint_any _ _).mono ?_; rintro e w' ⟨rfl, rfl⟩; simp only [h])
  go_ret2
  refine ⟨.slice (some ⟨w.heap.size + 1, 0, none⟩) 1 1, rfl, ?_, ?_⟩
  · exact ORow.lit .u8 _ _ _ [p] _ 1 _ (by simp) rfl rfl (by simp) (by simp)
  · exact below_alloc (below_first _) _
set_option maxHeartbeats 400000 in
theorem put_2 (p : Int) (w : World) (h : isPt p = true) (h0 : 128 ≤ p) (h1 : p < 2048) :
    Calls Try.prog 28 #[.int .i32 p] w (PutEnds w [192 + p / 64, 128 + p % 64]) := by
  go_enter Try.func28, Try.ntmps28
  go_wp2_with (go_at_call 40; refine (isPoint_any _ _).mono ?_; rintro e w' ⟨rfl, rfl⟩; simp only [h])
  go_region_held3 (fun w' => w'.cell? ⟨w.heap.size, 0, none⟩ = some (.int .i32 p)) (simp [go_sem])
    (first | (go_at_call 41; ((with_reducible refine (six0 p _ _ (by go_simp)).mono ?_); rintro e w' ⟨rfl, rfl⟩)))
  go_wp2
  go_ret2
  refine ⟨.slice (some ⟨w.heap.size + 1, 0, none⟩) 2 2, rfl, ORow.drew ?_, b_drew ?_⟩
  · exact ORow.lit .u8 _ _ _ [192 + p / 64, 128 + p % 64] _ 2 _ (by simp) (by rw [or192 _ (by omega) (by omega)]; rfl) rfl (by simp) (by simp)
  · exact below_alloc (below_first _) _
set_option maxHeartbeats 400000 in
theorem put_3 (p : Int) (w : World) (h : isPt p = true) (h0 : 2048 ≤ p) (h1 : p < 65536) :
    Calls Try.prog 28 #[.int .i32 p] w (PutEnds w [224 + p / 4096, 128 + p / 64 % 64, 128 + p % 64]) := by
  go_enter Try.func28, Try.ntmps28
  go_wp2_with (go_at_call 40; refine (isPoint_any _ _).mono ?_; rintro e w' ⟨rfl, rfl⟩; simp only [h])
  go_region_held3 (fun w' => w'.cell? ⟨w.heap.size, 0, none⟩ = some (.int .i32 p)) (simp [go_sem])
    (first | (go_at_call 41; ((with_reducible refine (six0 p _ _ (by go_simp)).mono ?_); rintro e w' ⟨rfl, rfl⟩)) | (go_at_call 41; ((with_reducible refine (six6 p _ _ (by go_simp)).mono ?_); rintro e w' ⟨rfl, rfl⟩)))
  go_wp2
  go_ret2
  refine ⟨.slice (some ⟨w.heap.size + 1, 0, none⟩) 3 3, rfl, ORow.drew ?_, b_drew ?_⟩
  · exact ORow.lit .u8 _ _ _ [224 + p / 4096, 128 + p / 64 % 64, 128 + p % 64] _ 3 _ (by simp) (by rw [or224 _ (by omega) (by omega)]; rfl) rfl (by simp) (by simp)
  · exact below_alloc (below_first _) _
set_option maxHeartbeats 400000 in
theorem put_4 (p : Int) (w : World) (h : isPt p = true) (h0 : 65536 ≤ p) (h1 : p < 1114112) :
    Calls Try.prog 28 #[.int .i32 p] w (PutEnds w [240 + p / 262144, 128 + p / 4096 % 64, 128 + p / 64 % 64, 128 + p % 64]) := by
  go_enter Try.func28, Try.ntmps28
  go_wp2_with (go_at_call 40; refine (isPoint_any _ _).mono ?_; rintro e w' ⟨rfl, rfl⟩; simp only [h])
  go_region_held3 (fun w' => w'.cell? ⟨w.heap.size, 0, none⟩ = some (.int .i32 p)) (simp [go_sem])
    (first | (go_at_call 41; ((with_reducible refine (six0 p _ _ (by go_simp)).mono ?_); rintro e w' ⟨rfl, rfl⟩)) | (go_at_call 41; ((with_reducible refine (six6 p _ _ (by go_simp)).mono ?_); rintro e w' ⟨rfl, rfl⟩)) | (go_at_call 41; ((with_reducible refine (six12 p _ _ (by go_simp)).mono ?_); rintro e w' ⟨rfl, rfl⟩)))
  go_wp2
  go_ret2
  refine ⟨.slice (some ⟨w.heap.size + 1, 0, none⟩) 4 4, rfl, ORow.drew ?_, b_drew ?_⟩
  · exact ORow.lit .u8 _ _ _ [240 + p / 262144, 128 + p / 4096 % 64, 128 + p / 64 % 64, 128 + p % 64] _ 4 _ (by simp) (by rw [or240 _ (by omega) (by omega)]; rfl) rfl (by simp) (by simp)
  · exact below_alloc (below_first _) _

def PutPost (p : Int) (w : World) (e : Ending) (w' : World) : Prop :=
  ∃ v, e = .returned (.tuple #[v, .int .i64 (putE p)]) ∧ ORow .u8 5 w' w.heap.size v (putB p) ∧ Below w.heap.size w w'
theorem put_any (p : Int) (w : World) : Calls Try.prog 28 #[.int .i32 p] w (PutPost p w) := by
  rcases hp : isPt p with _ | _
  · refine (put_no p w hp).mono fun e w' h => ?_
    obtain ⟨h1, h2⟩ := h
    refine ⟨.slice none 0 0, ?_, ?_, h2⟩
    · rw [h1]; simp [putE, hp]
    · simp only [putB, hp]; exact ORow.nil _ _ _ _
  · have h := (isPt_iff p).1 hp
    have he : putE p = 0 := by simp [putE, hp]
    unfold PutPost
    rw [he]
    by_cases h1 : p < 128
    · have hb : putB p = [p] := by simp [putB, hp, h1]
      rw [hb]; exact put_1 p w hp h.1 h1
    · by_cases h2 : p < 2048
      · have hb : putB p = [192 + p / 64, 128 + p % 64] := by simp [putB, hp, h1, h2]
        rw [hb]; exact put_2 p w hp (by omega) h2
      · by_cases h3 : p < 65536
        · have hb : putB p = [224 + p / 4096, 128 + p / 64 % 64, 128 + p % 64] := by simp [putB, hp, h1, h2, h3]
          rw [hb]; exact put_3 p w hp (by omega) h3
        · have hb : putB p = [240 + p / 262144, 128 + p / 4096 % 64, 128 + p / 64 % 64, 128 + p % 64] := by simp [putB, hp, h1, h2, h3]
          rw [hb]; exact put_4 p w hp (by omega) (by omega)
theorem put_ok (p : Int) (w : World) (h : isPt p = true) : Calls Try.prog 28 #[.int .i32 p] w (PutEnds w (putB p)) := by
  have h1 := put_any p w
  unfold PutPost at h1
  rw [show putE p = 0 by simp [putE, h]] at h1
  exact h1
end Go.Proofs.Ytpbgpbblbohmgaa
