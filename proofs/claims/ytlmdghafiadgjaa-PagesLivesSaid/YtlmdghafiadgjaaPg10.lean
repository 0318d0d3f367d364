/- pages: a store's Write, walked. -/
import Derived.Test.YtlmdghafiadgjaaPg9
namespace Go.Proofs.Ytlmdghafiadgjaa
set_option linter.unusedVariables false
set_option linter.unusedSimpArgs false
open Go.RowKit Go.Proofs.YtlmdghafiadgjaaW.PrintWords Go.Proofs.YtlmdghafiadgjaaW.PrintLast

theorem pack_any (k n t : Int) (A : Option Addr) (c : Nat) (xs : List Int) (w : World) (hr : ReadsInt w .u8 A xs.length xs) (hx : Bytes xs) (hk0 : 0 ≤ k) (hk1 : k ≤ 255) (ht0 : 0 ≤ t) (ht1 : t < 18446744073709551616) :
    Calls Try.prog 10 #[.int .u8 k, .int .i64 n, .int .u64 t, .slice A xs.length c] w fun e w' => ∃ v, e = .returned (.tuple #[v, .int .i64 (packV k n t xs).2]) ∧ Below w.heap.size w w' ∧ ((packV k n t xs).2 = 0 → ∃ g, v = .slice (some ⟨g, 0, none⟩) 1024 1024 ∧ RowP w' g (packV k n t xs).1 ∧ w.heap.size ≤ g ∧ (packV k n t xs).1.length = 1024 ∧ Bytes (packV k n t xs).1 ∧ PkOk k n t xs ∧ (packV k n t xs).1 = packL k n t xs) ∧ ((packV k n t xs).2 ≠ 0 → v = .slice none 0 0 ∧ (packV k n t xs).1 = [] ∧ (996 < xs.length ∨ n < 0 ∨ 16384 ≤ n ∨ k = 0)) := by
  by_cases h1 : 996 < xs.length
  · have e : packV k n t xs = ([], 2) := by unfold packV; rw [if_pos h1]
    rw [e]
    refine (pack_bad k n t A xs.length c hr.2.1 w (.inl h1)).mono ?_
    rintro e w1 ⟨rfl, rfl⟩
    rw [if_pos h1]
    exact ⟨_, rfl, Below.refl _ _, fun h => (by cases h), fun _ => ⟨rfl, rfl, .inl h1⟩⟩
  · by_cases h2 : n < 0 ∨ 16384 ≤ n ∨ k = 0
    · have e : packV k n t xs = ([], 1) := by unfold packV; rw [if_neg h1, if_pos h2]
      rw [e]
      refine (pack_bad k n t A xs.length c hr.2.1 w (.inr h2)).mono ?_
      rintro e w1 ⟨rfl, rfl⟩
      rw [if_neg h1]
      exact ⟨_, rfl, Below.refl _ _, fun h => (by cases h), fun _ => ⟨rfl, rfl, .inr h2⟩⟩
    · have e : packV k n t xs = (packL k n t xs, 0) := by unfold packV; rw [if_neg h1, if_neg h2]
      have hok : PkOk k n t xs := ⟨by omega, hk1, by omega, by omega, ht0, ht1, by omega, hx⟩
      rw [e]
      refine (pack_ok k n t A c xs w hok hr).mono ?_
      rintro e w1 ⟨g, rfl, h3, h4, h5⟩
      have hp := pack_page hok
      exact ⟨_, rfl, h5, fun _ => ⟨g, rfl, h3, h4, hp.1.len, packL_bytes ⟨hk0, hk1⟩ hx, hok, rfl⟩, fun h => (h rfl).elim⟩
/-- The turn behind T. -/
def nxT (T : Int) : Int := (T + 1) % 18446744073709551616
theorem nxT_w (T : Int) : IntKind.u64.wrap (T + 1) = nxT T := by unfold nxT; simp [IntKind.wrap, IntKind.bits, IntKind.signed]
theorem nxT_range (T : Int) : 0 ≤ nxT T ∧ nxT T < 18446744073709551616 := by unfold nxT; omega
def swriteV (D : DS) (T : Int) (B : Bool) (n k : Int) (xs : List Int) : Int × DS × Bool :=
  if dataV (D.size / 4) n ≠ 0 then (dataV (D.size / 4) n, D, B) else if B then (7, D, B)
  else if (packV k n (nxT T) xs).2 ≠ 0 then ((packV k n (nxT T) xs).2, D, B)
  else ((storeV D n (packV k n (nxT T) xs).1).1, (storeV D n (packV k n (nxT T) xs).1).2, (storeV D n (packV k n (nxT T) xs).1).1 != 0)
set_option maxRecDepth 100000 in
set_option maxHeartbeats 1000000 in
theorem swrite_no (v : Value) (n k : Int) (x : Value) (w : World) (h : NoStore w v) : Calls Try.prog 16 #[v, .int .i64 n, .int .u8 k, x] w fun e w' => e = .returned (.int .i64 6) ∧ w = w' := by
  have HM := Lib.hid (data_no v n w h)
  clear h
  go_enter Try.func16, Try.ntmps16
  go_wp2_with (first | (go_at_call 44; ((with_reducible refine HM.out.mono ?_); rintro e w1 ⟨rfl, rfl⟩)))
  go_ret
  exact ⟨rfl, rfl⟩
set_option maxRecDepth 100000 in
set_option maxHeartbeats 4000000 in
theorem swrite_yes (p b : Nat) (D : DS) (T : Int) (R : List Int) (B : Bool) (fs : Nat → Prop) (n k : Int) (A : Option Addr) (c : Nat) (xs : List Int) (w : World) (h : StoreAt w p b T R B fs) (hd : DiskAt w b D fs)
    (hr : ReadsInt w .u8 A xs.length xs) (hx : Bytes xs) (hk0 : 0 ≤ k) (hk1 : k ≤ 255) (ha : D.after ≤ 9223372036854775807) (hp : D.pend.length ≤ 999999000) :
    Calls Try.prog 16 #[.pointer (some ⟨p, 0, none⟩), .int .i64 n, .int .u8 k, .slice A xs.length c] w fun e w' => e = .returned (.int .i64 (swriteV D T B n k xs).1) ∧ EffS w p b fs (swriteV D T B n k xs).2.1 T R (swriteV D T B n k xs).2.2 w' := by
  obtain ⟨h0, h1, h3⟩ := h.cells
  have ho := hd.ok
  have c0 : w.cell? ⟨b, 0, none⟩ = some (.int .i64 D.size) := by obtain ⟨r, v, hv⟩ := hd; exact (blk_cell hv.blk 0).trans rfl
  have HM := Lib.hid (data_yes p b D.size n w h0 c0 ho.pos ho.max)
  have HEr := Lib.hid (EffS.refl hd h)
  unfold swriteV
  by_cases hz : dataV (D.size / 4) n ≠ 0
  · simp only [if_pos hz]
    have hzb : (dataV (D.size / 4) n != 0) = true := bne_iff_ne.mpr hz
    clear hd h c0 ho hr
    generalize dataV (D.size / 4) n = dv at *
    go_enter Try.func16, Try.ntmps16
    go_wp2_with (first | (go_at_call 44; ((with_reducible refine HM.out.mono ?_); rintro e w1 ⟨rfl, rfl⟩)))
    go_ret
    exact ⟨rfl, HEr.out⟩
  simp only [if_neg hz]
  have hz0 : dataV (D.size / 4) n = 0 := by simpa using hz
  have hn := dataV_ok hz0
  have hmx := ho.max
  rw [hz0] at HM
  cases B with
  | true =>
    simp only [if_true]
    clear hd h c0 ho hr hz hz0
    go_enter Try.func16, Try.ntmps16
    go_wp2_with (first | (go_at_call 44; ((with_reducible refine HM.out.mono ?_); rintro e w1 ⟨rfl, rfl⟩)))
    go_ret
    exact ⟨rfl, HEr.out⟩
  | false =>
    simp only [Bool.false_eq_true, if_false]
    have HPK := Lib.hid (pack_any k n (nxT T) A c xs w hr hx hk0 hk1 (nxT_range T).1 (nxT_range T).2)
    have HEB := Lib.hid (fun w1 hB => EffS.below (w' := w1) hd h hB)
    have hT : IntKind.u64.wrap (T + 1) = nxT T := nxT_w T
    by_cases hq : (packV k n (nxT T) xs).2 ≠ 0
    · simp only [if_pos hq]
      have hqb : ((packV k n (nxT T) xs).2 != 0) = true := bne_iff_ne.mpr hq
      clear hd h c0 ho hr hz hz0 hx
      generalize (packV k n (nxT T) xs) = pk at *
      go_enter Try.func16, Try.ntmps16
      go_wp2_with (first
        | (go_at_call 44; ((with_reducible refine HM.out.mono ?_); rintro e w1 ⟨rfl, rfl⟩))
        | (go_at_call 10; ((with_reducible refine HPK.out.mono ?_); rintro e w1 ⟨v1, rfl, hB1, _, _⟩; have HB1 := Lib.hid hB1; clear hB1)))
      go_ret
      exact ⟨rfl, HEB.out _ HB1.out⟩
    · simp only [if_neg hq]
      have hq0 : (packV k n (nxT T) xs).2 = 0 := by simpa using hq
      have HST := Lib.hid (fun g w1 (hB : Below w.heap.size w w1) (hR : RowP w1 g (packV k n (nxT T) xs).1) (hg : w.heap.size ≤ g) hl hby => store_any b D fs n g (packV k n (nxT T) xs).1 w1 (hd.below hB) (by omega) (by omega) ha hp hR hl hby (fun e => by have := hd.lt g e; omega) hR.lt)
      have HSE := Lib.hid (fun w1 w2 D2 (hB : Below w.heap.size w w1) (hE : Eff w1 b fs D2 w2) => (EffS.below (w' := w1) hd h hB).disk (fun gs hd1 hs1 hg1 => by exact EffS.refl hd1 hs1) )
      have HSE := Lib.hid (fun w1 w2 D2 (hB : Below w.heap.size w w1) (hE : Eff w1 b fs D2 w2) => (show EffS w p b fs D2 T R false w2 by
        obtain ⟨gs, h1, h2, h3⟩ := hE
        have hs := (h.below hB).eff h2 (fun _ h => .inl h) h3
        exact ⟨gs, h1, hs, (show Frame (fun i => fs i ∨ i = p) w w1 from Below.frame_ hB).trans h2 (fun i hi => .inl (.inl hi)), fun i hi => (h3 i hi).imp id (fun h => Nat.le_trans hB.size h), RootFrom.same ((h2.block p (Nat.lt_of_lt_of_le h.lt hB.size) (by obtain ⟨_, _, _, h9, _⟩ := h; exact h9)).trans (hB.block p h.lt))⟩))
      have HC0 := Lib.hid (fun w1 hB => (h.below (w' := w1) hB).cells)
      rw [hq0] at HPK
      clear hd h c0 ho hr hz hz0 hx hq
      generalize (packV k n (nxT T) xs) = pk at *
      generalize storeV D n pk.1 = sv at *
      go_enter Try.func16, Try.ntmps16
      go_wp2_with (first
        | (go_at_call 44; ((with_reducible refine HM.out.mono ?_); rintro e w1 ⟨rfl, rfl⟩))
        | (go_at_call 10; ((with_reducible refine HPK.out.mono ?_); rintro e w1 ⟨v1, rfl, hB1, hy, _⟩; obtain ⟨g, rfl, hR1, hg1, hl1, hby1, _⟩ := hy (by trivial); have HB1 := Lib.hid hB1; have HS1 := Lib.hid (HST.out g w1 hB1 hR1 hg1 hl1 hby1); obtain ⟨f0, _, _⟩ := HC0.out w1 hB1; clear hB1 hy hR1))
        | (go_at_call 45; ((with_reducible refine HS1.out.mono ?_); rintro e w2 ⟨rfl, hE2⟩; have hs2 := HSE.out w1 w2 _ HB1.out hE2; have HS2 := Lib.hid hs2; obtain ⟨ks, _, ⟨v2, hb2, _⟩, _⟩ := hs2; have f3 := blk_frozen hb2 3; have e3 : w2.cell? ⟨p, 3, none⟩ = some (.bool false) := (blk_cell hb2 3).trans rfl; clear hE2 hb2)))
      go_ret
      exact ⟨rfl, HS2.out.set3 _⟩
end Go.Proofs.Ytlmdghafiadgjaa
