/- kind: a token off a text's front; a quoted text. -/
import Derived.Test.YtdnehnjcbdkgcaaK2
namespace Go.Proofs.Ytdnehnjcbdkgcaa
open Go.RowKit Go.Shelf Go.Proofs.YtdnehnjcbdkgcaaW.PrintWords

def tokL (l : List Int) : List Int := l.takeWhile sgnB
def restL (l : List Int) : List Int := l.dropWhile sgnB
theorem tok_at {l : List Int} {k : Nat} (hk : k ≤ l.length) (h : (l.take k).all sgnB = true) (h2 : k = l.length ∨ (k < l.length ∧ sgnB (rd l (k : Int)) = false)) : tokL l = l.take k ∧ restL l = l.drop k := by
  have e : l = l.take k ++ l.drop k := (List.take_append_drop k l).symm
  have ht : ∀ x ∈ l.take k, sgnB x = true := fun x hx => List.all_eq_true.1 h x hx
  have hd : (l.drop k).takeWhile sgnB = [] ∧ (l.drop k).dropWhile sgnB = l.drop k := by
    rcases h2 with rfl | ⟨h2, h3⟩
    · rw [List.drop_length]; exact ⟨rfl, rfl⟩
    · rw [List.drop_eq_getElem_cons h2, ← rd_lt l k h2]
      exact ⟨by rw [List.takeWhile_cons_of_neg (by rw [h3]; decide)], by rw [List.dropWhile_cons_of_neg (by rw [h3]; decide)]⟩
  unfold tokL restL
  constructor
  · conv => lhs; rw [e]
    rw [List.takeWhile_append_of_pos ht, hd.1, List.append_nil]
  · conv => lhs; rw [e]
    rw [List.dropWhile_append_of_pos ht, hd.2]
def TokEnds (w : World) (a b : List Int) (e : Ending) (w' : World) : Prop := e = .returned (.tuple #[.string (St a), .string (St b)]) ∧ ∃ n, w' = w.drewN n
set_option maxRecDepth 100000 in
set_option maxHeartbeats 2000000 in
theorem token_any (l : List Int) (w : World) (hby : Bytes l) (hl : l.length ≤ 4611686018427387904) :
    Calls Try.prog 22 #[.string (St l)] w (TokEnds w (tokL l) (restL l)) := by
  have HBY := Lib.hid hby
  have HAT := Lib.hid (fun i hi => St_at hby i hi)
  have hsz := St_size l
  have HX1 := Lib.hid (fun k => St_extract l 0 k)
  have HX2 : Hid (∀ k, (St l).extract k (St l).size = St (l.drop k)) := Lib.hid (fun k => by rw [St_extract, St_size, List.take_length])
  obtain ⟨T1, hT1⟩ : ∃ T, tokL l = T := ⟨_, rfl⟩
  obtain ⟨T2, hT2⟩ : ∃ T, restL l = T := ⟨_, rfl⟩
  have HT : Hid (∀ k, k ≤ l.length → (l.take k).all sgnB = true → (k = l.length ∨ (k < l.length ∧ sgnB (rd l (k : Int)) = false)) → T1 = l.take k ∧ T2 = l.drop k) := Lib.hid (fun k h1 h2 h3 => by rw [← hT1, ← hT2]; exact tok_at h1 h2 h3)
  rw [hT1, hT2]
  unfold TokEnds
  generalize St l = s at *
  have HSZ := Lib.hid hsz
  have hls : s.size ≤ 4611686018427387904 := by omega
  clear hby hsz hT1 hT2
  go_enter Try.func22, Try.ntmps22
  go_wp2
  go_loop [4] (fun s4 => ∃ k : Nat, k ≤ s.size ∧ s4 = .int .i64 k ∧ Hid ((l.take k).all sgnB = true)) (fun s4 => s.size - (intOf s4).toNat)
  case atStart => exact ⟨0, Nat.zero_le _, rfl, Lib.hid rfl⟩
  case round =>
    obtain ⟨k, hk, rfl, HA⟩ := hrel
    by_cases hlt : k < s.size
    · have hkl : k < l.length := by have := HSZ.out; omega
      have HTK := Lib.hid (take_succ_rd l k hkl)
      have he := HAT.out k hlt
      have hr := HBY.out.rd k
      have hF := fun h => HT.out k (Nat.le_of_lt hkl) HA.out (.inr ⟨hkl, h⟩)
      have hx1 := HX1.out k
      have hx2 := HX2.out k
      rw [List.drop_zero] at hx1
      generalize rd l (k : Int) = c at *
      have HI := Lib.hid (index_others c)
      rcases sgn_ways c hr.1 hr.2 with ⟨h1, h2⟩ | ⟨h1, h2, h3⟩ | ⟨h1, h2, h3, h4⟩ | ⟨h1, h2, h3, h4⟩
      · have HTF := Lib.hid (hF h1)
        clear hF h1 hkl
        go_wp2
        go_quiet (fail)
        go_wp2
        go_ret2
        exact ⟨by rw [HTF.out.1, HTF.out.2]; rfl, _, rfl⟩
      · have HTF := Lib.hid (hF h1)
        clear hF h1 hkl
        go_wp2
        go_quiet (fail)
        go_wp2
        go_ret2
        exact ⟨by rw [HTF.out.1, HTF.out.2]; rfl, _, rfl⟩
      · have HTF := Lib.hid (hF h1)
        clear hF h1 hkl
        go_wp2_with (first | (go_at_call 39; ((refine (HI.out _).mono ?_); rintro e w' ⟨rfl, rfl⟩)))
        go_quiet (fail)
        go_wp2
        go_ret2
        exact ⟨by rw [HTF.out.1, HTF.out.2]; rfl, _, rfl⟩
      · have HS := Lib.hid h1
        clear hF h1 hkl hx1 hx2
        go_wp2_with (first | (go_at_call 39; ((refine (HI.out _).mono ?_); rintro e w' ⟨rfl, rfl⟩)))
        go_round
        case rel => exact ⟨k + 1, by omega, by go_num, Lib.hid (by rw [HTK.out, List.all_append, HA.out]; simp [HS.out])⟩
        case measure => simp [intOf]; omega
    · have hks : k = s.size := by omega
      have HTF := Lib.hid (HT.out k (by have := HSZ.out; omega) HA.out (.inl (by have := HSZ.out; omega)))
      have hx1 := HX1.out k
      have hx2 := HX2.out k
      rw [List.drop_zero] at hx1
      have HE : Hid (ByteArray.empty = St (l.drop k)) := Lib.hid (by rw [List.drop_eq_nil_of_le (by have := HSZ.out; omega)]; rfl)
      subst hks
      go_wp2
      go_quiet (fail)
      go_wp2
      go_ret2
      refine ⟨by rw [HTF.out.1, HTF.out.2, ← HE.out]; rfl, _, rfl⟩
end Go.Proofs.Ytdnehnjcbdkgcaa
