/- pages: store, walked. -/
import Derived.Test.YtlmdghafiadgjaaPg6
namespace Go.Proofs.Ytlmdghafiadgjaa
set_option linter.unusedVariables false
set_option linter.unusedSimpArgs false
open Go.RowKit Go.Proofs.YtlmdghafiadgjaaW.PrintWords Go.Proofs.YtlmdghafiadgjaaW.PrintLast

set_option maxRecDepth 100000 in
theorem slice_row (w : World) (g lo hi : Nat) (l h : Int) (hlo : l = (lo : Int)) (hhi : h = (hi : Int)) (h1 : lo ≤ hi) (h2 : hi ≤ 1024) (h3 : lo < 1024) : (Instr.sliceAt 23 (.slice (some ⟨g, 0, none⟩) 1024 1024) (some (.int .i64 l)) (some (.int .i64 h)) none).run Try.prog w = .ok (.slice (some ⟨g, lo, none⟩) (hi - lo) (1024 - lo)) w := by
  subst hlo; subst hhi
  have hs : (sizeOf (Try.prog.elem 23)).run Try.prog w = .ok 1 w := by kernel_rfl
  rw [run_sliceAt_slice (P := Try.prog) w 23 _ _ _ _ Try.underlying23, run_slice_lh (P := Try.prog) w 23 (some ⟨g, 0, none⟩) 1024 1024 Try.underlying23 .i64 .i64 (lo : Int) (hi : Int) (by omega) (by omega) (by omega), hs]
  simp only [Result.andThen_ok, sliced, Int.toNat_natCast, Nat.mul_one]
  rw [if_neg (show ¬ 1024 = lo by omega)]
  have e : (⟨g, 0, none⟩ : Addr).add lo = ⟨g, lo, none⟩ := by unfold Addr.add; split <;> simp_all
  rw [Option.map_some, e]
def stoV (D : DS) (n : Int) (b : List Int) : Nat → Int × DS
  | 0 => (0, D)
  | k + 1 => if (stoV D n b k).1 ≠ 0 then stoV D n b k else writeV (stoV D n b k).2 (n * 4 + (k : Int)) (seg b (256 * k) (256 * k + 256))
def storeV (D : DS) (n : Int) (b : List Int) : Int × DS := stoV D n b 4
theorem planV_after (D : DS) : (planV D).2.after ≤ D.after := by
  unfold planV
  split
  · exact Int.le_refl _
  · split
    · show D.after - 1 ≤ D.after; omega
    · exact Int.le_refl _
theorem writeV_keeps (D : DS) (i : Int) (xs : List Int) : (writeV D i xs).2.after ≤ D.after ∧ (writeV D i xs).2.pend.length ≤ D.pend.length + 1 ∧ (writeV D i xs).2.size = D.size := by
  unfold writeV
  have h1 := planV_after D
  obtain ⟨h2, h3, h4⟩ := planV_pend D
  split
  · exact ⟨Int.le_refl _, by simp, rfl⟩
  · split
    · exact ⟨Int.le_refl _, by simp, rfl⟩
    · split
      · exact ⟨h1, by rw [h2]; omega, h3⟩
      · exact ⟨h1, by simp, h3⟩
theorem stoV_keeps (D : DS) (n : Int) (b : List Int) : ∀ k, (stoV D n b k).2.after ≤ D.after ∧ (stoV D n b k).2.pend.length ≤ D.pend.length + k ∧ (stoV D n b k).2.size = D.size
  | 0 => ⟨Int.le_refl _, Nat.le_refl _, rfl⟩
  | k + 1 => by
    have h := stoV_keeps D n b k
    unfold stoV
    split
    · exact ⟨h.1, by omega, h.2.2⟩
    · have h2 := writeV_keeps (stoV D n b k).2 (n * 4 + (k : Int)) (seg b (256 * k) (256 * k + 256))
      exact ⟨by omega, by omega, h2.2.2.trans h.2.2⟩
theorem stoV_stop (D : DS) (n : Int) (b : List Int) (k : Nat) (h : (stoV D n b k).1 ≠ 0) : ∀ j, stoV D n b (k + j) = stoV D n b k
  | 0 => rfl
  | j + 1 => by
    have := stoV_stop D n b k h j
    show stoV D n b ((k + j) + 1) = _
    rw [stoV, if_pos (by rw [this]; exact h), this]
theorem Eff.trans {w w1 w2 : World} {b : Nat} {fs : Nat → Prop} {D1 D2 : DS} (h : Eff w b fs D1 w1) (k : ∀ gs, DiskAt w1 b D1 gs → (∀ i, gs i → fs i ∨ w.heap.size ≤ i) → Eff w1 b gs D2 w2) : Eff w b fs D2 w2 := by
  obtain ⟨gs, hd, hf, hg⟩ := h
  obtain ⟨ks, hd2, hf2, hk⟩ := k gs hd hg
  exact ⟨ks, hd2, hf.trans hf2 hg, fun i hi => (hk i hi).elim (hg i) (fun h => .inr (Nat.le_trans hf.size h))⟩
set_option maxRecDepth 100000 in
set_option maxHeartbeats 2000000 in
theorem store_any (b : Nat) (D : DS) (fs : Nat → Prop) (n : Int) (g : Nat) (xs : List Int) (w : World) (h : DiskAt w b D fs) (hn : 0 ≤ n) (hn2 : n ≤ 20000) (ha : D.after ≤ 9223372036854775807) (hp : D.pend.length ≤ 999999000)
    (hr : RowP w g xs) (hl : xs.length = 1024) (hx : Bytes xs) (hg : ¬ fs g) (hgl : g < w.heap.size) :
    Calls Try.prog 45 #[.pointer (some ⟨b, 0, none⟩), .int .i64 n, .slice (some ⟨g, 0, none⟩) 1024 1024] w fun e w' => e = .returned (.int .i64 (storeV D n xs).1) ∧ Eff w b fs (storeV D n xs).2 w' := by
  have HE0 := Lib.hid (Eff.refl h)
  have HR := Lib.hid hr
  have hw4 : wrap64 (n * 4) = n * 4 := wrap64_id _ (by omega) (by omega)
  have HX := Lib.hid hx
  have HG := Lib.hid hg
  have HL := Lib.hid hl
  clear h hr hx hg hl
  go_enter Try.func45, Try.ntmps45
  go_wp2
  go_loopw [9] (fun s9 wr => ∃ k : Nat, k ≤ 4 ∧ s9 = .int .i64 k ∧ Hid ((stoV D n xs k).1 = 0 ∧ Eff w b fs (stoV D n xs k).2 wr)) (fun s9 _ => 4 - (intOf s9).toNat)
  case atStart => exact ⟨0, Nat.zero_le _, rfl, Lib.hid ⟨rfl, HE0.out⟩⟩
  case round =>
    obtain ⟨k, hk, rfl, HE⟩ := hrel
    by_cases hlt : k < 4
    · have hwk : wrap64 (n * 4 + (k : Int)) = n * 4 + (k : Int) := wrap64_id _ (by omega) (by omega)
      have hwa : wrap64 ((k : Int) * 256) = (k : Int) * 256 := wrap64_id _ (by omega) (by omega)
      have hwb : wrap64 (((k : Int) + 1) * 256) = ((k : Int) + 1) * 256 := wrap64_id _ (by omega) (by omega)
      have hsl := slice_row wr g (256 * k) (256 * k + 256) ((k : Int) * 256) (((k : Int) + 1) * 256) (by omega) (by omega) (by omega) (by omega) (by omega)
      rw [show 256 * k + 256 - 256 * k = 256 by omega] at hsl
      obtain ⟨fs1, hd1, hf1, hfs1⟩ := HE.out.2
      have hkk := stoV_keeps D n xs k
      have hR1 : RowP wr g xs := by
        have := hf1.block g hgl HG.out
        exact RowP.keep (w := w) HR.out this
      have hrd := hR1.reads (a := 256 * k) (b := 256 * k + 256) (by rw [HL.out]; omega) (by omega) (by rw [HL.out]; omega)
      have hsl2 : (seg xs (256 * k) (256 * k + 256)).length = 256 := by rw [seg_len (by rw [HL.out]; omega)]; omega
      have HW := Lib.hid (write_any b _ fs1 (n * 4 + (k : Int)) (some ⟨g, 256 * k, none⟩) (1024 - 256 * k) (seg xs (256 * k) (256 * k + 256)) wr hd1 (by omega) (by rw [hsl2]; rw [show 256 * k + 256 - 256 * k = 256 by omega] at hrd; exact hrd) (seg_bytes HX.out _ _) (fun ad e => by cases e; exact fun h2 => (hfs1 g h2).elim HG.out (fun h3 => by omega)) (by omega))
      rw [hsl2] at HW
      have HNX : Hid (stoV D n xs (k + 1) = writeV (stoV D n xs k).2 (n * 4 + (k : Int)) (seg xs (256 * k) (256 * k + 256))) := Lib.hid (by rw [stoV, if_neg (by rw [HE.out.1]; exact fun h => h rfl)])
      have HST : Hid ((writeV (stoV D n xs k).2 (n * 4 + (k : Int)) (seg xs (256 * k) (256 * k + 256))).1 ≠ 0 → storeV D n xs = writeV (stoV D n xs k).2 (n * 4 + (k : Int)) (seg xs (256 * k) (256 * k + 256))) := Lib.hid (fun h0 => by
        rw [← HNX.out] at h0 ⊢
        have := stoV_stop D n xs (k + 1) h0 (4 - (k + 1))
        rw [show k + 1 + (4 - (k + 1)) = 4 by omega] at this
        exact this)
      have HEF := Lib.hid (fun w2 D2 (h2 : Eff wr b fs1 D2 w2) => (show Eff w b fs D2 w2 by
        obtain ⟨ks, hd2, hf2, hk2⟩ := h2
        exact ⟨ks, hd2, hf1.trans hf2 hfs1, fun i hi => (hk2 i hi).elim (hfs1 i) (fun h => .inr (Nat.le_trans hf1.size h))⟩))
      clear hd1 hf1 hfs1 hkk hR1 hrd hsl2 HE0
      generalize writeV (stoV D n xs k).2 (n * 4 + (k : Int)) (seg xs (256 * k) (256 * k + 256)) = wv at *
      by_cases hz : wv.1 = 0
      · have hzb : (wv.1 != 0) = false := by rw [hz]; rfl
        go_wp2_with (first
          | (go_at_call 56; ((with_reducible refine HW.out.mono ?_); rintro e w1 ⟨rfl, hE1⟩; have HE1 := Lib.hid (HEF.out _ _ hE1); clear hE1)))
        go_roundw
        case rel => exact ⟨k + 1, hlt, by go_num, Lib.hid (by rw [HNX.out]; exact ⟨hz, HE1.out⟩)⟩
        case measure => simp [intOf]; omega
      · have hzb : (wv.1 != 0) = true := bne_iff_ne.mpr hz
        go_wp2_with (first
          | (go_at_call 56; ((with_reducible refine HW.out.mono ?_); rintro e w1 ⟨rfl, hE1⟩; have HE1 := Lib.hid (HEF.out _ _ hE1); clear hE1)))
        go_ret
        exact ⟨by rw [HST.out hz]; rfl, by rw [HST.out hz]; exact HE1.out⟩
    · obtain rfl : k = 4 := by omega
      go_wp2
      go_ret
      exact ⟨by unfold storeV; rw [HE.out.1]; rfl, HE.out.2⟩
end Go.Proofs.Ytlmdghafiadgjaa
