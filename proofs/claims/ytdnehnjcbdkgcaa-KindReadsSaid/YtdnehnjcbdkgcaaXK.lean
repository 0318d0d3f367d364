/- kind: the document's Text: blanks, is, token. kind: the document's Text.token, walked. kind: the document's Text.value, walked. kind, plain: the document's reading is the program's. kind: the document's Read, walked. kind: the document's Read, walked. The law KindReads, walked. -/
import Derived.Test.YtdnehnjcbdkgcaaKE
import Derived.Test.YtdnehnjcbdkgcaaWLast
import Derived.Test.YtdnehnjcbdkgcaaK9
import Derived.Test.YtdnehnjcbdkgcaaKLR
namespace Go.Proofs.Ytdnehnjcbdkgcaa
set_option linter.unusedVariables false
set_option linter.unusedSimpArgs false
open Go.RowKit Go.Shelf Go.Proofs.YtdnehnjcbdkgcaaW.PrintWords PKindReads

/-- A Text in block g over l: what is left of it is r. -/
def TX (w0 w : World) (g : Nat) (l r : List Int) : Prop := ∃ i : Nat, i ≤ l.length ∧ l.drop i = r ∧ IsS50 w0 w g (St l) (i : Int)
def TXEnds (w0 w : World) (g : Nat) (l r : List Int) (v : Value) (e : Ending) (w' : World) : Prop := e = .returned v ∧ TX w0 w' g l r ∧ Below w0.heap.size w0 w' ∧ KeepBut w w' g none
theorem blanks_loop (l : List Int) (hb : Bytes l) (hl : l.length ≤ 4294967296) : ∀ m i : Nat, i + m = l.length → ∃ j : Nat, j ≤ l.length ∧ l.drop j = blankL (l.drop i) ∧ Ev (fun k => posthornref08_Text_blanks.l0 k (St l) (i : Int)) (St l, (j : Int)) := by
  intro m
  induction m with
  | zero =>
    intro i hi
    refine ⟨i, by omega, by rw [List.drop_eq_nil_of_le (by omega)]; rfl, ?_⟩
    refine Ev.step (by intro k; rw [posthornref08_Text_blanks.l0]) ?_
    rw [St_size]
    exact Ev.neg (by omega) (Ev.done _)
  | succ m ih =>
    intro i hi
    have hlt : i < l.length := by omega
    obtain ⟨j, h1, h2, h3⟩ := ih (i + 1) (by omega)
    have hd : l.drop i = rd l (i : Int) :: l.drop (i + 1) := by rw [List.drop_eq_getElem_cons hlt, ← rd_lt l i hlt]
    have hw : wrap64 ((i : Int) + 1) = ((i + 1 : Nat) : Int) := by rw [wrap64_id _ (by omega) (by omega)]; omega
    by_cases hc : blkC (rd l (i : Int)) = true
    · refine ⟨j, h1, by rw [h2, hd]; unfold blankL; rw [List.dropWhile_cons_of_pos hc], ?_⟩
      refine Ev.step (by intro k; rw [posthornref08_Text_blanks.l0]) ?_
      rw [St_size, bt_St hb, hw]
      refine Ev.pos (by omega) ?_
      refine Ev.pos (by omega) ?_
      by_cases c1 : rd l (i : Int) = 32
      · exact Ev.pos c1 h3
      · refine Ev.neg c1 ?_
        refine Ev.pos ?_ h3
        unfold blkC at hc
        simp only [Bool.or_eq_true, beq_iff_eq] at hc
        exact hc.resolve_left c1
    · have hc2 : blkC (rd l (i : Int)) = false := by simpa using hc
      have hn : rd l (i : Int) ≠ 32 ∧ rd l (i : Int) ≠ 9 := by
        unfold blkC at hc2
        simp only [Bool.or_eq_false_iff, beq_eq_false_iff_ne] at hc2
        exact hc2
      refine ⟨i, by omega, by rw [hd, blankL_hit _ hc2], ?_⟩
      refine Ev.step (by intro k; rw [posthornref08_Text_blanks.l0]) ?_
      rw [St_size, bt_St hb]
      refine Ev.pos (by omega) ?_
      refine Ev.pos (by omega) ?_
      exact Ev.neg hn.1 (Ev.neg hn.2 (Ev.done _))
theorem tblanks_any (l r : List Int) (g : Nat) (w0 w : World) (hb : Bytes l) (hl : l.length ≤ 4294967296) (hT : TX w0 w g l r) (hB : Below w0.heap.size w0 w) :
    Calls Try.prog 27 #[.pointer (some ⟨g, 0, none⟩)] w (TXEnds w0 w g l (blankL r) (.tuple #[])) := by
  obtain ⟨i, hi, rfl, hI⟩ := hT
  obtain ⟨j, h1, h2, h3⟩ := blanks_loop l hb hl (l.length - i) i (by omega)
  obtain ⟨k, hk⟩ := h3.get
  refine (posthornref08_Text_blanks.calls k g (St l) (i : Int) (St l) (j : Int) w0 w hI hB hk).mono ?_
  rintro e w' ⟨he, hI2, hB2, hK⟩
  exact ⟨he, ⟨j, h1, h2, hI2⟩, hB2, hK⟩
theorem tis_any (p : Int) (l r : List Int) (g : Nat) (w0 w : World) (hb : Bytes l) (hl : l.length ≤ 4294967296) (hT : TX w0 w g l r) (hB : Below w0.heap.size w0 w) :
    Calls Try.prog 29 #[.pointer (some ⟨g, 0, none⟩), .int .u8 p] w (TXEnds w0 w g l ((cutP p r).getD r) (.bool (hasP p r))) := by
  obtain ⟨i, hi, rfl, hI⟩ := hT
  by_cases hlt : i < l.length
  · have hd : l.drop i = rd l (i : Int) :: l.drop (i + 1) := by rw [List.drop_eq_getElem_cons hlt, ← rd_lt l i hlt]
    have hw : wrap64 ((i : Int) + 1) = ((i + 1 : Nat) : Int) := by rw [wrap64_id _ (by omega) (by omega)]; omega
    by_cases hc : rd l (i : Int) = p
    · refine (posthornref08_Text_is.calls g (St l) (i : Int) p true (St l) ((i + 1 : Nat) : Int) w0 w hI hB (by unfold posthornref08_Text_is.f; rw [St_size, if_pos (by omega), if_pos (by omega), bt_St hb, if_pos hc, hw])).mono ?_
      rintro e w' ⟨he, hI2, hB2, hK⟩
      unfold hasP
      rw [hd, cutP_cons, if_pos hc]
      exact ⟨he, ⟨i + 1, by omega, rfl, hI2⟩, hB2, hK⟩
    · refine (posthornref08_Text_is.calls g (St l) (i : Int) p false (St l) (i : Int) w0 w hI hB (by unfold posthornref08_Text_is.f; rw [St_size, if_pos (by omega), if_pos (by omega), bt_St hb, if_neg hc])).mono ?_
      rintro e w' ⟨he, hI2, hB2, hK⟩
      unfold hasP
      rw [hd, cutP_cons, if_neg hc]
      exact ⟨he, ⟨i, by omega, hd, hI2⟩, hB2, hK⟩
  · refine (posthornref08_Text_is.calls g (St l) (i : Int) p false (St l) (i : Int) w0 w hI hB (by unfold posthornref08_Text_is.f; rw [St_size, if_neg (by omega)])).mono ?_
    rintro e w' ⟨he, hI2, hB2, hK⟩
    have hd : l.drop i = [] := List.drop_eq_nil_of_le (by omega)
    rw [hd]
    exact ⟨he, ⟨i, by omega, hd, hI2⟩, hB2, hK⟩
end Go.Proofs.Ytdnehnjcbdkgcaa
namespace Go.Proofs.Ytdnehnjcbdkgcaa
set_option linter.unusedVariables false
set_option linter.unusedSimpArgs false
open Go.RowKit Go.Shelf Go.Proofs.YtdnehnjcbdkgcaaW.PrintWords Go.Proofs.YtdnehnjcbdkgcaaW.PrintLast PKindReads

theorem sign_any {c : Int} (h0 : 0 ≤ c) (h1 : c ≤ 255) (w : World) : Calls Try.prog 43 #[.int .u8 c] w fun e w' => e = .returned (.bool (sgnB c)) ∧ Below w.heap.size w w' := by
  obtain ⟨k, hk⟩ := (sign_ev h0 h1).get
  exact posthornref08_sign.calls k c (sgnB c) w hk
theorem KeepBut.then_below {w w1 w2 : World} {g : Nat} (h : KeepBut w w1 g none) (hb : Below w1.heap.size w1 w2) : KeepBut w w2 g none :=
  ⟨Nat.le_trans h.1 hb.size, fun i hi hn hr => (hb.block i (Nat.lt_of_lt_of_le hi h.1)).trans (h.2 i hi hn hr)⟩
def atT (w : World) (g : Nat) : Nat := match w.cell? ⟨g, 1, none⟩ with | some (.int _ j) => j.toNat | _ => 0
theorem atT_eq {w : World} {g : Nat} {x : Value} {k : IntKind} {j : Int} {t : TypeId} (h : w.heap[g]? = some (.cells #[x, .int k j] t (0, 0))) : atT w g = j.toNat := by
  have hc : w.cell? ⟨g, 1, none⟩ = some (.int k j) := (blk_cell h 1).trans rfl
  unfold atT; rw [hc]
set_option maxRecDepth 100000 in
set_option maxHeartbeats 4000000 in
theorem ttoken_any (l : List Int) (i : Nat) (g : Nat) (w0 w : World) (hb : Bytes l) (hl : l.length ≤ 4294967296) (hi : i ≤ l.length) (hI : IsS50 w0 w g (St l) (i : Int)) (hB : Below w0.heap.size w0 w) :
    Calls Try.prog 28 #[.pointer (some ⟨g, 0, none⟩)] w (TXEnds w0 w g l (restL (l.drop i)) (.string (St (tokL (l.drop i))))) := by
  have HBY := Lib.hid hb
  have HAT := Lib.hid (fun i hi => St_at hb i hi)
  have hsz := St_size l
  have HSE := Lib.hid (fun a b => St_extract l a b)
  have hg := hI.2
  have hblk := hI.1
  have HT : Hid (∀ j, i ≤ j → j ≤ l.length → ((l.drop i).take (j - i)).all sgnB = true → (j = l.length ∨ (j < l.length ∧ sgnB (rd l (j : Int)) = false)) → tokL (l.drop i) = (l.take j).drop i ∧ restL (l.drop i) = l.drop j) := Lib.hid (fun j h1 h2 h3 h4 => by
    have h5 := tok_at (l := l.drop i) (k := j - i) (by rw [List.length_drop]; omega) h3 (by
      rw [List.length_drop, rd_drop, show i + (j - i) = j by omega]
      rcases h4 with h4 | h4
      · exact .inl (by omega)
      · exact .inr ⟨by omega, h4.2⟩)
    rw [List.drop_take]
    refine ⟨h5.1, ?_⟩
    rw [h5.2, List.drop_drop, show i + (j - i) = j by omega])
  have HI0 : Hid (w.heap[g]? = some (.cells #[.string (St l), .int .i64 (i : Int)] 50 (0, 0))) := Lib.hid hblk
  have HB := Lib.hid hB
  unfold TXEnds TX IsS50
  generalize restL (l.drop i) = R2 at *
  generalize tokL (l.drop i) = R1 at *
  have hls : (St l).size ≤ 4294967296 := by omega
  have HEX : Hid (∀ j, i ≤ j → j ≤ l.length → (St l).extract i j = St ((l.take j).drop i)) := Lib.hid (fun j h1 h2 => St_extract l i j)
  have hc0 : w.cell? ⟨g, 0, none⟩ = some (.string (St l)) := (blk_cell hblk 0).trans rfl
  have hc1 : w.cell? ⟨g, 1, none⟩ = some (.int .i64 (i : Int)) := (blk_cell hblk 1).trans rfl
  generalize St l = s at *
  have HSZ := Lib.hid hsz
  clear hsz hI hblk hB hb
  go_enter Try.func28, Try.ntmps28
  go_wp2
  clear hc0 hc1
  go_loopw [35] (fun _ wr => ∃ j : Nat, i ≤ j ∧ j ≤ s.size ∧ Hid (wr.heap[g]? = some (.cells #[.string s, .int .i64 (j : Int)] 50 (0, 0))) ∧ Hid (Below w0.heap.size w0 wr) ∧ Hid (KeepBut w wr g none) ∧ Hid (((l.drop i).take (j - i)).all sgnB = true)) (fun _ wr => s.size - atT wr g)
  case atStart => exact ⟨i, Nat.le_refl _, by have := HSZ.out; omega, HI0, HB, Lib.hid (KeepBut.refl _ _ _), Lib.hid (by rw [Nat.sub_self, List.take_zero]; rfl)⟩
  case round =>
    obtain ⟨j, hij, hj, HX, HBw, HK, HA⟩ := hrel
    clear HI0 HB
    have k0 : wr.cell? ⟨g, 0, none⟩ = some (.string s) := (blk_cell HX.out 0).trans rfl
    have k1 : wr.cell? ⟨g, 1, none⟩ = some (.int .i64 (j : Int)) := (blk_cell HX.out 1).trans rfl
    by_cases hlt : j < s.size
    · have hjl : j < l.length := by have := HSZ.out; omega
      have he := HAT.out j hlt
      have hr := HBY.out.rd j
      have HSG := Lib.hid (sign_any hr.1 hr.2)
      have HTK := Lib.hid (take_succ_rd (l.drop i) (j - i) (by rw [List.length_drop]; omega))
      rw [rd_drop, show i + (j - i) = j by omega, show j - i + 1 = (j + 1) - i by omega] at HTK
      have hF := fun h => HT.out j hij (Nat.le_of_lt hjl) HA.out (.inr ⟨hjl, h⟩)
      generalize rd l (j : Int) = c at *
      by_cases hs : sgnB c = true
      · rw [hs] at HSG
        have HSS := Lib.hid hs
        clear hF hs
        go_wp2
        -- R2a
        refine start_ (n := 22) (S := fun w' => w'.cell? ⟨g, 0, none⟩ = some (.string s) ∧ w'.cell? ⟨g, 1, none⟩ = some (.int .i64 (j : Int))) (ds := []) #[false, false, false, false, false, false, false, false, false, false, false, false, false, false, false, false, false, false, false, false, false, false] (by kernel_rfl) rfl rfl ⟨k0, k1⟩ (fun hHeld => ?_)
        refine pure_ (i := 0) (N := some 8) (v := ?_) (a' := ?_) #[true, false, false, false, false, false, false, false, false, false, false, false, false, false, false, false, false, false, false, false, false, false] rfl rfl (by kernel_rfl) (fun _ _ _ h => h) (Or.inl ⟨by rfl, ?_⟩) ?_ ?_
        rotate_left
        · intro w'
          go_simp
          with_reducible rfl
        rotate_left
        · simp only [Act.put, List.setIfInBounds_toArray, List.set_cons_zero, List.set_cons_succ, i64_w, i32_w]
          rfl
        refine pure_ (i := 1) (N := some 9) (v := ?_) (a' := ?_) #[true, true, false, false, false, false, false, false, false, false, false, false, false, false, false, false, false, false, false, false, false, false] rfl rfl (by kernel_rfl) (fun _ _ _ h => h) (Or.inl ⟨by rfl, ?_⟩) ?_ ?_
        rotate_left
        · intro w'
          go_simp
          with_reducible rfl
        rotate_left
        · simp only [Act.put, List.setIfInBounds_toArray, List.set_cons_zero, List.set_cons_succ, i64_w, i32_w]
          rfl
        refine pure_ (i := 2) (N := some 10) (v := ?_) (a' := ?_) #[true, true, true, false, false, false, false, false, false, false, false, false, false, false, false, false, false, false, false, false, false, false] rfl rfl (by kernel_rfl) (fun _ _ _ h => h) (Or.inl ⟨by rfl, ?_⟩) ?_ ?_
        rotate_left
        · intro w'
          go_simp
          with_reducible rfl
        rotate_left
        · simp only [Act.put, List.setIfInBounds_toArray, List.set_cons_zero, List.set_cons_succ, i64_w, i32_w]
          rfl
        refine pure_ (i := 4) (N := some 12) (v := ?_) (a' := ?_) #[true, true, true, false, true, false, false, false, false, false, false, false, false, false, false, false, false, false, false, false, false, false] rfl rfl (by kernel_rfl) (fun _ _ _ h => h) (Or.inl ⟨by rfl, ?_⟩) ?_ ?_
        rotate_left
        · intro w'
          go_simp
          with_reducible rfl
        rotate_left
        · simp only [Act.put, List.setIfInBounds_toArray, List.set_cons_zero, List.set_cons_succ, i64_w, i32_w]
          rfl
        refine pure_ (i := 5) (N := some 13) (v := ?_) (a' := ?_) #[true, true, true, false, true, true, false, false, false, false, false, false, false, false, false, false, false, false, false, false, false, false] rfl rfl (by kernel_rfl) (fun _ _ _ h => h) (Or.inl ⟨by rfl, ?_⟩) ?_ ?_
        rotate_left
        · intro w'
          go_simp
          with_reducible rfl
        rotate_left
        · simp only [Act.put, List.setIfInBounds_toArray, List.set_cons_zero, List.set_cons_succ, i64_w, i32_w]
          rfl
        refine pure_ (i := 6) (N := some 14) (v := ?_) (a' := ?_) #[true, true, true, false, true, true, true, false, false, false, false, false, false, false, false, false, false, false, false, false, false, false] rfl rfl (by kernel_rfl) (fun _ _ _ h => h) (Or.inl ⟨by rfl, ?_⟩) ?_ ?_
        rotate_left
        · intro w'
          go_simp
          with_reducible rfl
        rotate_left
        · simp only [Act.put, List.setIfInBounds_toArray, List.set_cons_zero, List.set_cons_succ, i64_w, i32_w]
          rfl
        refine take_ (i := 3) (N := some 11) (v := ?_) (a' := ?_) #[true, true, true, true, true, true, true, false, false, false, false, false, false, false, false, false, false, false, false, false, false, false] rfl rfl (by kernel_rfl) (fun _ _ _ h => h) (Or.inl ⟨by rfl, ?_⟩) hHeld ?_ ?_
        rotate_left
        · rintro w' ⟨s0, s1⟩
          go_simp
          with_reducible rfl
        rotate_left
        · simp only [Act.put, List.setIfInBounds_toArray, List.set_cons_zero, List.set_cons_succ, i64_w, i32_w]
          rfl
        refine take_ (i := 7) (N := some 15) (v := ?_) (a' := ?_) #[true, true, true, true, true, true, true, true, false, false, false, false, false, false, false, false, false, false, false, false, false, false] rfl rfl (by kernel_rfl) (fun _ _ _ h => h) (Or.inl ⟨by rfl, ?_⟩) hHeld ?_ ?_
        rotate_left
        · rintro w' ⟨s0, s1⟩
          go_simp
          with_reducible rfl
        rotate_left
        · simp only [Act.put, List.setIfInBounds_toArray, List.set_cons_zero, List.set_cons_succ, i64_w, i32_w]
          rfl
        refine pure_ (i := 8) (N := some 16) (v := ?_) (a' := ?_) #[true, true, true, true, true, true, true, true, true, false, false, false, false, false, false, false, false, false, false, false, false, false] rfl rfl (by kernel_rfl) (fun _ _ _ h => h) (Or.inl ⟨by rfl, ?_⟩) ?_ ?_
        rotate_left
        · intro w'
          go_simp
          with_reducible rfl
        rotate_left
        · simp only [Act.put, List.setIfInBounds_toArray, List.set_cons_zero, List.set_cons_succ, i64_w, i32_w]
          rfl
        refine pure_ (i := 9) (N := some 17) (v := ?_) (a' := ?_) #[true, true, true, true, true, true, true, true, true, true, false, false, false, false, false, false, false, false, false, false, false, false] rfl rfl (by kernel_rfl) (fun _ _ _ h => h) (Or.inl ⟨by rfl, ?_⟩) ?_ ?_
        rotate_left
        · intro w'
          go_simp
          with_reducible rfl
        rotate_left
        · simp only [Act.put, List.setIfInBounds_toArray, List.set_cons_zero, List.set_cons_succ, i64_w, i32_w]
          rfl
        refine pure_ (i := 10) (N := some 18) (v := ?_) (a' := ?_) #[true, true, true, true, true, true, true, true, true, true, true, false, false, false, false, false, false, false, false, false, false, false] rfl rfl (by kernel_rfl) (fun _ _ _ h => h) (Or.inl ⟨by rfl, ?_⟩) ?_ ?_
        rotate_left
        · intro w'
          go_simp
          with_reducible rfl
        rotate_left
        · simp only [Act.put, List.setIfInBounds_toArray, List.set_cons_zero, List.set_cons_succ, i64_w, i32_w]
          rfl
        refine pure_ (i := 11) (N := some 19) (v := ?_) (a' := ?_) #[true, true, true, true, true, true, true, true, true, true, true, true, false, false, false, false, false, false, false, false, false, false] rfl rfl (by kernel_rfl) (fun _ _ _ h => h) (Or.inl ⟨by rfl, ?_⟩) ?_ ?_
        rotate_left
        · intro w'
          go_simp
          with_reducible rfl
        rotate_left
        · simp only [Act.put, List.setIfInBounds_toArray, List.set_cons_zero, List.set_cons_succ, i64_w, i32_w]
          rfl
        refine pure_ (i := 12) (N := some 20) (v := ?_) (a' := ?_) #[true, true, true, true, true, true, true, true, true, true, true, true, true, false, false, false, false, false, false, false, false, false] rfl rfl (by kernel_rfl) (fun _ _ _ h => h) (Or.inl ⟨by rfl, ?_⟩) ?_ ?_
        rotate_left
        · intro w'
          go_simp
          with_reducible rfl
        rotate_left
        · simp only [Act.put, List.setIfInBounds_toArray, List.set_cons_zero, List.set_cons_succ, i64_w, i32_w]
          rfl
        refine pure_ (i := 13) (N := some 21) (v := ?_) (a' := ?_) #[true, true, true, true, true, true, true, true, true, true, true, true, true, true, false, false, false, false, false, false, false, false] rfl rfl (by kernel_rfl) (fun _ _ _ h => h) (Or.inl ⟨by rfl, ?_⟩) ?_ ?_
        rotate_left
        · intro w'
          go_simp
          with_reducible rfl
        rotate_left
        · simp only [Act.put, List.setIfInBounds_toArray, List.set_cons_zero, List.set_cons_succ, i64_w, i32_w]
          rfl
        refine pure_ (i := 15) (N := some 23) (v := ?_) (a' := ?_) #[true, true, true, true, true, true, true, true, true, true, true, true, true, true, false, true, false, false, false, false, false, false] rfl rfl (by kernel_rfl) (fun _ _ _ h => h) (Or.inl ⟨by rfl, ?_⟩) ?_ ?_
        rotate_left
        · intro w'
          go_simp
          with_reducible rfl
        rotate_left
        · simp only [Act.put, List.setIfInBounds_toArray, List.set_cons_zero, List.set_cons_succ, i64_w, i32_w]
          rfl
        refine pure_ (i := 16) (N := some 24) (v := ?_) (a' := ?_) #[true, true, true, true, true, true, true, true, true, true, true, true, true, true, false, true, true, false, false, false, false, false] rfl rfl (by kernel_rfl) (fun _ _ _ h => h) (Or.inl ⟨by rfl, ?_⟩) ?_ ?_
        rotate_left
        · intro w'
          go_simp
          with_reducible rfl
        rotate_left
        · simp only [Act.put, List.setIfInBounds_toArray, List.set_cons_zero, List.set_cons_succ, i64_w, i32_w]
          rfl
        refine pure_ (i := 17) (N := some 25) (v := ?_) (a' := ?_) #[true, true, true, true, true, true, true, true, true, true, true, true, true, true, false, true, true, true, false, false, false, false] rfl rfl (by kernel_rfl) (fun _ _ _ h => h) (Or.inl ⟨by rfl, ?_⟩) ?_ ?_
        rotate_left
        · intro w'
          go_simp
          with_reducible rfl
        rotate_left
        · simp only [Act.put, List.setIfInBounds_toArray, List.set_cons_zero, List.set_cons_succ, i64_w, i32_w]
          rfl
        refine take_ (i := 14) (N := some 22) (v := ?_) (a' := ?_) #[true, true, true, true, true, true, true, true, true, true, true, true, true, true, true, true, true, true, false, false, false, false] rfl rfl (by kernel_rfl) (fun _ _ _ h => h) (Or.inl ⟨by rfl, ?_⟩) hHeld ?_ ?_
        rotate_left
        · rintro w' ⟨s0, s1⟩
          go_simp
          with_reducible rfl
        rotate_left
        · simp only [Act.put, List.setIfInBounds_toArray, List.set_cons_zero, List.set_cons_succ, i64_w, i32_w]
          rfl
        refine take_ (i := 18) (N := some 26) (v := ?_) (a' := ?_) #[true, true, true, true, true, true, true, true, true, true, true, true, true, true, true, true, true, true, true, false, false, false] rfl rfl (by kernel_rfl) (fun _ _ _ h => h) (Or.inl ⟨by rfl, ?_⟩) hHeld ?_ ?_
        rotate_left
        · rintro w' ⟨s0, s1⟩
          go_simp
          with_reducible rfl
        rotate_left
        · simp only [Act.put, List.setIfInBounds_toArray, List.set_cons_zero, List.set_cons_succ, i64_w, i32_w]
          rfl
        refine take_ (i := 19) (N := some 27) (v := ?_) (a' := ?_) #[true, true, true, true, true, true, true, true, true, true, true, true, true, true, true, true, true, true, true, true, false, false] rfl rfl (by kernel_rfl) (fun _ _ _ h => h) (Or.inl ⟨by rfl, ?_⟩) hHeld ?_ ?_
        rotate_left
        · rintro w' ⟨s0, s1⟩
          go_simp
          with_reducible rfl
        rotate_left
        · simp only [Act.put, List.setIfInBounds_toArray, List.set_cons_zero, List.set_cons_succ, i64_w, i32_w]
          rfl
        refine one_ (i := 20) (N := some 28) #[true, true, true, true, true, true, true, true, true, true, true, true, true, true, true, true, true, true, true, true, true, false] rfl rfl (by kernel_rfl) (by decide) (fun K hK => ?_)
        refine goes_ Try.func43 (by kernel_rfl) rfl #[.int .u8 c] (by rfl) rfl rfl (by simp only [List.map_toArray, List.map_cons, List.map_nil] <;> rfl) ?_
        with_reducible refine (HSG.out _).mono ?_
        rintro e w7 ⟨rfl, hB⟩
        refine ⟨_, rfl, ?_⟩
        have HX6 := Lib.hid (below_step (b_drew (Below.refl _ _)) hB)
        have HX7 := Lib.hid (blk_below HX.out HX6.out)
        have HB7 := Lib.hid (below_then HBw.out HBw.out.size HX6.out)
        have HK7 := Lib.hid (KeepBut.then_below HK.out HX6.out)
        have m0 : w7.cell? ⟨g, 0, none⟩ = some (.string s) := (blk_cell HX7.out 0).trans rfl
        have m1 : w7.cell? ⟨g, 1, none⟩ = some (.int .i64 (j : Int)) := (blk_cell HX7.out 1).trans rfl
        have y1 := blk_frozen HX7.out 1
        clear hB
        refine hK.out _ _ ⟨m0, m1⟩ (fun hHeld => ?_)
        clear hK K
        refine norm_ (a' := ?_) ?_ ?_
        rotate_left
        · show Act.put _ (some 28) _ = _
          simp only [Act.put, List.setIfInBounds_toArray, List.set_cons_zero, List.set_cons_succ, i64_w, i32_w]
          rfl
        refine pure_ (i := 21) (N := some 29) (v := ?_) (a' := ?_) #[true, true, true, true, true, true, true, true, true, true, true, true, true, true, true, true, true, true, true, true, true, true] rfl rfl (by kernel_rfl) (fun _ _ _ h => h) (Or.inl ⟨by rfl, ?_⟩) ?_ ?_
        rotate_left
        · intro w'
          go_simp
          with_reducible rfl
        rotate_left
        · simp only [Act.put, List.setIfInBounds_toArray, List.set_cons_zero, List.set_cons_succ, i64_w, i32_w]
          rfl
        refine done_ (by kernel_rfl) ?_
        -- ENDR2a
        go_wp2
        have hat := atT_eq HX.out
        go_roundw
        case rel => exact ⟨j + 1, by omega, by omega, by simpa using Lib.hid (blk_set HX7.out 1 (.int .i64 ((j : Int) + 1))), Lib.hid (below_set HB7.out hg), Lib.hid (HK7.out.set_ 1 _), Lib.hid (by rw [HTK.out, List.all_append, HA.out]; simp [HSS.out])⟩
        case measure =>
          have hat2 := atT_eq (blk_set HX7.out 1 (.int .i64 ((j : Int) + 1)))
          rw [hat2, hat]
          omega
      · have hs' : sgnB c = false := by simpa using hs
        rw [hs'] at HSG
        have HRR := Lib.hid (hF hs')
        have hex := HEX.out j hij (Nat.le_of_lt hjl)
        clear hF hs hs'
        go_wp2
        -- R2b
        refine start_ (n := 22) (S := fun w' => w'.cell? ⟨g, 0, none⟩ = some (.string s) ∧ w'.cell? ⟨g, 1, none⟩ = some (.int .i64 (j : Int))) (ds := []) #[false, false, false, false, false, false, false, false, false, false, false, false, false, false, false, false, false, false, false, false, false, false] (by kernel_rfl) rfl rfl ⟨k0, k1⟩ (fun hHeld => ?_)
        refine pure_ (i := 0) (N := some 8) (v := ?_) (a' := ?_) #[true, false, false, false, false, false, false, false, false, false, false, false, false, false, false, false, false, false, false, false, false, false] rfl rfl (by kernel_rfl) (fun _ _ _ h => h) (Or.inl ⟨by rfl, ?_⟩) ?_ ?_
        rotate_left
        · intro w'
          go_simp
          with_reducible rfl
        rotate_left
        · simp only [Act.put, List.setIfInBounds_toArray, List.set_cons_zero, List.set_cons_succ, i64_w, i32_w]
          rfl
        refine pure_ (i := 1) (N := some 9) (v := ?_) (a' := ?_) #[true, true, false, false, false, false, false, false, false, false, false, false, false, false, false, false, false, false, false, false, false, false] rfl rfl (by kernel_rfl) (fun _ _ _ h => h) (Or.inl ⟨by rfl, ?_⟩) ?_ ?_
        rotate_left
        · intro w'
          go_simp
          with_reducible rfl
        rotate_left
        · simp only [Act.put, List.setIfInBounds_toArray, List.set_cons_zero, List.set_cons_succ, i64_w, i32_w]
          rfl
        refine pure_ (i := 2) (N := some 10) (v := ?_) (a' := ?_) #[true, true, true, false, false, false, false, false, false, false, false, false, false, false, false, false, false, false, false, false, false, false] rfl rfl (by kernel_rfl) (fun _ _ _ h => h) (Or.inl ⟨by rfl, ?_⟩) ?_ ?_
        rotate_left
        · intro w'
          go_simp
          with_reducible rfl
        rotate_left
        · simp only [Act.put, List.setIfInBounds_toArray, List.set_cons_zero, List.set_cons_succ, i64_w, i32_w]
          rfl
        refine pure_ (i := 4) (N := some 12) (v := ?_) (a' := ?_) #[true, true, true, false, true, false, false, false, false, false, false, false, false, false, false, false, false, false, false, false, false, false] rfl rfl (by kernel_rfl) (fun _ _ _ h => h) (Or.inl ⟨by rfl, ?_⟩) ?_ ?_
        rotate_left
        · intro w'
          go_simp
          with_reducible rfl
        rotate_left
        · simp only [Act.put, List.setIfInBounds_toArray, List.set_cons_zero, List.set_cons_succ, i64_w, i32_w]
          rfl
        refine pure_ (i := 5) (N := some 13) (v := ?_) (a' := ?_) #[true, true, true, false, true, true, false, false, false, false, false, false, false, false, false, false, false, false, false, false, false, false] rfl rfl (by kernel_rfl) (fun _ _ _ h => h) (Or.inl ⟨by rfl, ?_⟩) ?_ ?_
        rotate_left
        · intro w'
          go_simp
          with_reducible rfl
        rotate_left
        · simp only [Act.put, List.setIfInBounds_toArray, List.set_cons_zero, List.set_cons_succ, i64_w, i32_w]
          rfl
        refine pure_ (i := 6) (N := some 14) (v := ?_) (a' := ?_) #[true, true, true, false, true, true, true, false, false, false, false, false, false, false, false, false, false, false, false, false, false, false] rfl rfl (by kernel_rfl) (fun _ _ _ h => h) (Or.inl ⟨by rfl, ?_⟩) ?_ ?_
        rotate_left
        · intro w'
          go_simp
          with_reducible rfl
        rotate_left
        · simp only [Act.put, List.setIfInBounds_toArray, List.set_cons_zero, List.set_cons_succ, i64_w, i32_w]
          rfl
        refine take_ (i := 3) (N := some 11) (v := ?_) (a' := ?_) #[true, true, true, true, true, true, true, false, false, false, false, false, false, false, false, false, false, false, false, false, false, false] rfl rfl (by kernel_rfl) (fun _ _ _ h => h) (Or.inl ⟨by rfl, ?_⟩) hHeld ?_ ?_
        rotate_left
        · rintro w' ⟨s0, s1⟩
          go_simp
          with_reducible rfl
        rotate_left
        · simp only [Act.put, List.setIfInBounds_toArray, List.set_cons_zero, List.set_cons_succ, i64_w, i32_w]
          rfl
        refine take_ (i := 7) (N := some 15) (v := ?_) (a' := ?_) #[true, true, true, true, true, true, true, true, false, false, false, false, false, false, false, false, false, false, false, false, false, false] rfl rfl (by kernel_rfl) (fun _ _ _ h => h) (Or.inl ⟨by rfl, ?_⟩) hHeld ?_ ?_
        rotate_left
        · rintro w' ⟨s0, s1⟩
          go_simp
          with_reducible rfl
        rotate_left
        · simp only [Act.put, List.setIfInBounds_toArray, List.set_cons_zero, List.set_cons_succ, i64_w, i32_w]
          rfl
        refine pure_ (i := 8) (N := some 16) (v := ?_) (a' := ?_) #[true, true, true, true, true, true, true, true, true, false, false, false, false, false, false, false, false, false, false, false, false, false] rfl rfl (by kernel_rfl) (fun _ _ _ h => h) (Or.inl ⟨by rfl, ?_⟩) ?_ ?_
        rotate_left
        · intro w'
          go_simp
          with_reducible rfl
        rotate_left
        · simp only [Act.put, List.setIfInBounds_toArray, List.set_cons_zero, List.set_cons_succ, i64_w, i32_w]
          rfl
        refine pure_ (i := 9) (N := some 17) (v := ?_) (a' := ?_) #[true, true, true, true, true, true, true, true, true, true, false, false, false, false, false, false, false, false, false, false, false, false] rfl rfl (by kernel_rfl) (fun _ _ _ h => h) (Or.inl ⟨by rfl, ?_⟩) ?_ ?_
        rotate_left
        · intro w'
          go_simp
          with_reducible rfl
        rotate_left
        · simp only [Act.put, List.setIfInBounds_toArray, List.set_cons_zero, List.set_cons_succ, i64_w, i32_w]
          rfl
        refine pure_ (i := 10) (N := some 18) (v := ?_) (a' := ?_) #[true, true, true, true, true, true, true, true, true, true, true, false, false, false, false, false, false, false, false, false, false, false] rfl rfl (by kernel_rfl) (fun _ _ _ h => h) (Or.inl ⟨by rfl, ?_⟩) ?_ ?_
        rotate_left
        · intro w'
          go_simp
          with_reducible rfl
        rotate_left
        · simp only [Act.put, List.setIfInBounds_toArray, List.set_cons_zero, List.set_cons_succ, i64_w, i32_w]
          rfl
        refine pure_ (i := 11) (N := some 19) (v := ?_) (a' := ?_) #[true, true, true, true, true, true, true, true, true, true, true, true, false, false, false, false, false, false, false, false, false, false] rfl rfl (by kernel_rfl) (fun _ _ _ h => h) (Or.inl ⟨by rfl, ?_⟩) ?_ ?_
        rotate_left
        · intro w'
          go_simp
          with_reducible rfl
        rotate_left
        · simp only [Act.put, List.setIfInBounds_toArray, List.set_cons_zero, List.set_cons_succ, i64_w, i32_w]
          rfl
        refine pure_ (i := 12) (N := some 20) (v := ?_) (a' := ?_) #[true, true, true, true, true, true, true, true, true, true, true, true, true, false, false, false, false, false, false, false, false, false] rfl rfl (by kernel_rfl) (fun _ _ _ h => h) (Or.inl ⟨by rfl, ?_⟩) ?_ ?_
        rotate_left
        · intro w'
          go_simp
          with_reducible rfl
        rotate_left
        · simp only [Act.put, List.setIfInBounds_toArray, List.set_cons_zero, List.set_cons_succ, i64_w, i32_w]
          rfl
        refine pure_ (i := 13) (N := some 21) (v := ?_) (a' := ?_) #[true, true, true, true, true, true, true, true, true, true, true, true, true, true, false, false, false, false, false, false, false, false] rfl rfl (by kernel_rfl) (fun _ _ _ h => h) (Or.inl ⟨by rfl, ?_⟩) ?_ ?_
        rotate_left
        · intro w'
          go_simp
          with_reducible rfl
        rotate_left
        · simp only [Act.put, List.setIfInBounds_toArray, List.set_cons_zero, List.set_cons_succ, i64_w, i32_w]
          rfl
        refine pure_ (i := 15) (N := some 23) (v := ?_) (a' := ?_) #[true, true, true, true, true, true, true, true, true, true, true, true, true, true, false, true, false, false, false, false, false, false] rfl rfl (by kernel_rfl) (fun _ _ _ h => h) (Or.inl ⟨by rfl, ?_⟩) ?_ ?_
        rotate_left
        · intro w'
          go_simp
          with_reducible rfl
        rotate_left
        · simp only [Act.put, List.setIfInBounds_toArray, List.set_cons_zero, List.set_cons_succ, i64_w, i32_w]
          rfl
        refine pure_ (i := 16) (N := some 24) (v := ?_) (a' := ?_) #[true, true, true, true, true, true, true, true, true, true, true, true, true, true, false, true, true, false, false, false, false, false] rfl rfl (by kernel_rfl) (fun _ _ _ h => h) (Or.inl ⟨by rfl, ?_⟩) ?_ ?_
        rotate_left
        · intro w'
          go_simp
          with_reducible rfl
        rotate_left
        · simp only [Act.put, List.setIfInBounds_toArray, List.set_cons_zero, List.set_cons_succ, i64_w, i32_w]
          rfl
        refine pure_ (i := 17) (N := some 25) (v := ?_) (a' := ?_) #[true, true, true, true, true, true, true, true, true, true, true, true, true, true, false, true, true, true, false, false, false, false] rfl rfl (by kernel_rfl) (fun _ _ _ h => h) (Or.inl ⟨by rfl, ?_⟩) ?_ ?_
        rotate_left
        · intro w'
          go_simp
          with_reducible rfl
        rotate_left
        · simp only [Act.put, List.setIfInBounds_toArray, List.set_cons_zero, List.set_cons_succ, i64_w, i32_w]
          rfl
        refine take_ (i := 14) (N := some 22) (v := ?_) (a' := ?_) #[true, true, true, true, true, true, true, true, true, true, true, true, true, true, true, true, true, true, false, false, false, false] rfl rfl (by kernel_rfl) (fun _ _ _ h => h) (Or.inl ⟨by rfl, ?_⟩) hHeld ?_ ?_
        rotate_left
        · rintro w' ⟨s0, s1⟩
          go_simp
          with_reducible rfl
        rotate_left
        · simp only [Act.put, List.setIfInBounds_toArray, List.set_cons_zero, List.set_cons_succ, i64_w, i32_w]
          rfl
        refine take_ (i := 18) (N := some 26) (v := ?_) (a' := ?_) #[true, true, true, true, true, true, true, true, true, true, true, true, true, true, true, true, true, true, true, false, false, false] rfl rfl (by kernel_rfl) (fun _ _ _ h => h) (Or.inl ⟨by rfl, ?_⟩) hHeld ?_ ?_
        rotate_left
        · rintro w' ⟨s0, s1⟩
          go_simp
          with_reducible rfl
        rotate_left
        · simp only [Act.put, List.setIfInBounds_toArray, List.set_cons_zero, List.set_cons_succ, i64_w, i32_w]
          rfl
        refine take_ (i := 19) (N := some 27) (v := ?_) (a' := ?_) #[true, true, true, true, true, true, true, true, true, true, true, true, true, true, true, true, true, true, true, true, false, false] rfl rfl (by kernel_rfl) (fun _ _ _ h => h) (Or.inl ⟨by rfl, ?_⟩) hHeld ?_ ?_
        rotate_left
        · rintro w' ⟨s0, s1⟩
          go_simp
          with_reducible rfl
        rotate_left
        · simp only [Act.put, List.setIfInBounds_toArray, List.set_cons_zero, List.set_cons_succ, i64_w, i32_w]
          rfl
        refine one_ (i := 20) (N := some 28) #[true, true, true, true, true, true, true, true, true, true, true, true, true, true, true, true, true, true, true, true, true, false] rfl rfl (by kernel_rfl) (by decide) (fun K hK => ?_)
        refine goes_ Try.func43 (by kernel_rfl) rfl #[.int .u8 c] (by rfl) rfl rfl (by simp only [List.map_toArray, List.map_cons, List.map_nil] <;> rfl) ?_
        with_reducible refine (HSG.out _).mono ?_
        rintro e w7 ⟨rfl, hB⟩
        refine ⟨_, rfl, ?_⟩
        have HX6 := Lib.hid (below_step (b_drew (Below.refl _ _)) hB)
        have HX7 := Lib.hid (blk_below HX.out HX6.out)
        have HB7 := Lib.hid (below_then HBw.out HBw.out.size HX6.out)
        have HK7 := Lib.hid (KeepBut.then_below HK.out HX6.out)
        have m0 : w7.cell? ⟨g, 0, none⟩ = some (.string s) := (blk_cell HX7.out 0).trans rfl
        have m1 : w7.cell? ⟨g, 1, none⟩ = some (.int .i64 (j : Int)) := (blk_cell HX7.out 1).trans rfl
        have y1 := blk_frozen HX7.out 1
        clear hB
        refine hK.out _ _ ⟨m0, m1⟩ (fun hHeld => ?_)
        clear hK K
        refine norm_ (a' := ?_) ?_ ?_
        rotate_left
        · show Act.put _ (some 28) _ = _
          simp only [Act.put, List.setIfInBounds_toArray, List.set_cons_zero, List.set_cons_succ, i64_w, i32_w]
          rfl
        refine pure_ (i := 21) (N := some 29) (v := ?_) (a' := ?_) #[true, true, true, true, true, true, true, true, true, true, true, true, true, true, true, true, true, true, true, true, true, true] rfl rfl (by kernel_rfl) (fun _ _ _ h => h) (Or.inl ⟨by rfl, ?_⟩) ?_ ?_
        rotate_left
        · intro w'
          go_simp
          with_reducible rfl
        rotate_left
        · simp only [Act.put, List.setIfInBounds_toArray, List.set_cons_zero, List.set_cons_succ, i64_w, i32_w]
          rfl
        refine done_ (by kernel_rfl) ?_
        -- ENDR2b
        go_wp2
        go_quiet (fail)
        go_wp2
        go_ret
        exact ⟨by rw [HRR.out.1, ← hex]; rfl, ⟨j, Nat.le_of_lt hjl, HRR.out.2.symm, HX7.out, hg⟩, pw_below_drewN HB7.out _, HK7.out⟩
    · have hje : j = l.length := by have := HSZ.out; omega
      have HRR := Lib.hid (HT.out j hij (by omega) HA.out (.inl hje))
      have hex := HEX.out j hij (by omega)
      have hje2 : j = s.size := by omega
      have hdec : decide (j < s.size) = false := decide_eq_false hlt
      have HJL : Hid (j ≤ l.length) := Lib.hid (by omega)
      clear hje2 hje hlt
      go_wp2
      -- R2c
      refine start_ (n := 22) (S := fun w' => w'.cell? ⟨g, 0, none⟩ = some (.string s) ∧ w'.cell? ⟨g, 1, none⟩ = some (.int .i64 (j : Int))) (ds := []) #[false, false, false, false, false, false, false, false, false, false, false, false, false, false, false, false, false, false, false, false, false, false] (by kernel_rfl) rfl rfl ⟨k0, k1⟩ (fun hHeld => ?_)
      refine pure_ (i := 0) (N := some 8) (v := ?_) (a' := ?_) #[true, false, false, false, false, false, false, false, false, false, false, false, false, false, false, false, false, false, false, false, false, false] rfl rfl (by kernel_rfl) (fun _ _ _ h => h) (Or.inl ⟨by rfl, ?_⟩) ?_ ?_
      rotate_left
      · intro w'
        go_simp
        with_reducible rfl
      rotate_left
      · simp only [Act.put, List.setIfInBounds_toArray, List.set_cons_zero, List.set_cons_succ, i64_w, i32_w]
        rfl
      refine pure_ (i := 1) (N := some 9) (v := ?_) (a' := ?_) #[true, true, false, false, false, false, false, false, false, false, false, false, false, false, false, false, false, false, false, false, false, false] rfl rfl (by kernel_rfl) (fun _ _ _ h => h) (Or.inl ⟨by rfl, ?_⟩) ?_ ?_
      rotate_left
      · intro w'
        go_simp
        with_reducible rfl
      rotate_left
      · simp only [Act.put, List.setIfInBounds_toArray, List.set_cons_zero, List.set_cons_succ, i64_w, i32_w]
        rfl
      refine pure_ (i := 2) (N := some 10) (v := ?_) (a' := ?_) #[true, true, true, false, false, false, false, false, false, false, false, false, false, false, false, false, false, false, false, false, false, false] rfl rfl (by kernel_rfl) (fun _ _ _ h => h) (Or.inl ⟨by rfl, ?_⟩) ?_ ?_
      rotate_left
      · intro w'
        go_simp
        with_reducible rfl
      rotate_left
      · simp only [Act.put, List.setIfInBounds_toArray, List.set_cons_zero, List.set_cons_succ, i64_w, i32_w]
        rfl
      refine pure_ (i := 4) (N := some 12) (v := ?_) (a' := ?_) #[true, true, true, false, true, false, false, false, false, false, false, false, false, false, false, false, false, false, false, false, false, false] rfl rfl (by kernel_rfl) (fun _ _ _ h => h) (Or.inl ⟨by rfl, ?_⟩) ?_ ?_
      rotate_left
      · intro w'
        go_simp
        with_reducible rfl
      rotate_left
      · simp only [Act.put, List.setIfInBounds_toArray, List.set_cons_zero, List.set_cons_succ, i64_w, i32_w]
        rfl
      refine pure_ (i := 5) (N := some 13) (v := ?_) (a' := ?_) #[true, true, true, false, true, true, false, false, false, false, false, false, false, false, false, false, false, false, false, false, false, false] rfl rfl (by kernel_rfl) (fun _ _ _ h => h) (Or.inl ⟨by rfl, ?_⟩) ?_ ?_
      rotate_left
      · intro w'
        go_simp
        with_reducible rfl
      rotate_left
      · simp only [Act.put, List.setIfInBounds_toArray, List.set_cons_zero, List.set_cons_succ, i64_w, i32_w]
        rfl
      refine pure_ (i := 6) (N := some 14) (v := ?_) (a' := ?_) #[true, true, true, false, true, true, true, false, false, false, false, false, false, false, false, false, false, false, false, false, false, false] rfl rfl (by kernel_rfl) (fun _ _ _ h => h) (Or.inl ⟨by rfl, ?_⟩) ?_ ?_
      rotate_left
      · intro w'
        go_simp
        with_reducible rfl
      rotate_left
      · simp only [Act.put, List.setIfInBounds_toArray, List.set_cons_zero, List.set_cons_succ, i64_w, i32_w]
        rfl
      refine take_ (i := 3) (N := some 11) (v := ?_) (a' := ?_) #[true, true, true, true, true, true, true, false, false, false, false, false, false, false, false, false, false, false, false, false, false, false] rfl rfl (by kernel_rfl) (fun _ _ _ h => h) (Or.inl ⟨by rfl, ?_⟩) hHeld ?_ ?_
      rotate_left
      · rintro w' ⟨s0, s1⟩
        go_simp
        with_reducible rfl
      rotate_left
      · simp only [Act.put, List.setIfInBounds_toArray, List.set_cons_zero, List.set_cons_succ, i64_w, i32_w]
        rfl
      refine take_ (i := 7) (N := some 15) (v := ?_) (a' := ?_) #[true, true, true, true, true, true, true, true, false, false, false, false, false, false, false, false, false, false, false, false, false, false] rfl rfl (by kernel_rfl) (fun _ _ _ h => h) (Or.inl ⟨by rfl, ?_⟩) hHeld ?_ ?_
      rotate_left
      · rintro w' ⟨s0, s1⟩
        go_simp
        with_reducible rfl
      rotate_left
      · simp only [Act.put, List.setIfInBounds_toArray, List.set_cons_zero, List.set_cons_succ, i64_w, i32_w]
        rfl
      refine pure_ (i := 8) (N := some 16) (v := ?_) (a' := ?_) #[true, true, true, true, true, true, true, true, true, false, false, false, false, false, false, false, false, false, false, false, false, false] rfl rfl (by kernel_rfl) (fun _ _ _ h => h) (Or.inl ⟨by rfl, ?_⟩) ?_ ?_
      rotate_left
      · intro w'
        go_simp
        with_reducible rfl
      rotate_left
      · simp only [Act.put, List.setIfInBounds_toArray, List.set_cons_zero, List.set_cons_succ, i64_w, i32_w]
        rfl
      refine pure_ (i := 9) (N := some 17) (v := ?_) (a' := ?_) #[true, true, true, true, true, true, true, true, true, true, false, false, false, false, false, false, false, false, false, false, false, false] rfl rfl (by kernel_rfl) (fun _ _ _ h => h) (Or.inl ⟨by rfl, ?_⟩) ?_ ?_
      rotate_left
      · intro w'
        go_simp
        with_reducible rfl
      rotate_left
      · simp only [Act.put, List.setIfInBounds_toArray, List.set_cons_zero, List.set_cons_succ, i64_w, i32_w]
        rfl
      refine pure_ (i := 10) (N := some 18) (v := ?_) (a' := ?_) #[true, true, true, true, true, true, true, true, true, true, true, false, false, false, false, false, false, false, false, false, false, false] rfl rfl (by kernel_rfl) (fun _ _ _ h => h) (Or.inl ⟨by rfl, ?_⟩) ?_ ?_
      rotate_left
      · intro w'
        go_simp
        with_reducible rfl
      rotate_left
      · simp only [Act.put, List.setIfInBounds_toArray, List.set_cons_zero, List.set_cons_succ, i64_w, i32_w]
        rfl
      refine pure_ (i := 11) (N := some 19) (v := undef) (a' := ?_) #[true, true, true, true, true, true, true, true, true, true, true, true, false, false, false, false, false, false, false, false, false, false] rfl rfl (by kernel_rfl) (fun _ _ _ h => h) (Or.inr ⟨by rfl, rfl⟩) ?_ ?_
      rotate_left
      · simp only [Act.put, List.setIfInBounds_toArray, List.set_cons_zero, List.set_cons_succ, i64_w, i32_w]
        rfl
      refine pure_ (i := 12) (N := some 20) (v := undef) (a' := ?_) #[true, true, true, true, true, true, true, true, true, true, true, true, true, false, false, false, false, false, false, false, false, false] rfl rfl (by kernel_rfl) (fun _ _ _ h => h) (Or.inr ⟨by rfl, rfl⟩) ?_ ?_
      rotate_left
      · simp only [Act.put, List.setIfInBounds_toArray, List.set_cons_zero, List.set_cons_succ, i64_w, i32_w]
        rfl
      refine pure_ (i := 13) (N := some 21) (v := undef) (a' := ?_) #[true, true, true, true, true, true, true, true, true, true, true, true, true, true, false, false, false, false, false, false, false, false] rfl rfl (by kernel_rfl) (fun _ _ _ h => h) (Or.inr ⟨by rfl, rfl⟩) ?_ ?_
      rotate_left
      · simp only [Act.put, List.setIfInBounds_toArray, List.set_cons_zero, List.set_cons_succ, i64_w, i32_w]
        rfl
      refine pure_ (i := 14) (N := some 22) (v := undef) (a' := ?_) #[true, true, true, true, true, true, true, true, true, true, true, true, true, true, true, false, false, false, false, false, false, false] rfl rfl (by kernel_rfl) (fun _ _ _ h => h) (Or.inr ⟨by rfl, rfl⟩) ?_ ?_
      rotate_left
      · simp only [Act.put, List.setIfInBounds_toArray, List.set_cons_zero, List.set_cons_succ, i64_w, i32_w]
        rfl
      refine pure_ (i := 15) (N := some 23) (v := undef) (a' := ?_) #[true, true, true, true, true, true, true, true, true, true, true, true, true, true, true, true, false, false, false, false, false, false] rfl rfl (by kernel_rfl) (fun _ _ _ h => h) (Or.inr ⟨by rfl, rfl⟩) ?_ ?_
      rotate_left
      · simp only [Act.put, List.setIfInBounds_toArray, List.set_cons_zero, List.set_cons_succ, i64_w, i32_w]
        rfl
      refine pure_ (i := 16) (N := some 24) (v := undef) (a' := ?_) #[true, true, true, true, true, true, true, true, true, true, true, true, true, true, true, true, true, false, false, false, false, false] rfl rfl (by kernel_rfl) (fun _ _ _ h => h) (Or.inr ⟨by rfl, rfl⟩) ?_ ?_
      rotate_left
      · simp only [Act.put, List.setIfInBounds_toArray, List.set_cons_zero, List.set_cons_succ, i64_w, i32_w]
        rfl
      refine pure_ (i := 17) (N := some 25) (v := undef) (a' := ?_) #[true, true, true, true, true, true, true, true, true, true, true, true, true, true, true, true, true, true, false, false, false, false] rfl rfl (by kernel_rfl) (fun _ _ _ h => h) (Or.inr ⟨by rfl, rfl⟩) ?_ ?_
      rotate_left
      · simp only [Act.put, List.setIfInBounds_toArray, List.set_cons_zero, List.set_cons_succ, i64_w, i32_w]
        rfl
      refine pure_ (i := 18) (N := some 26) (v := undef) (a' := ?_) #[true, true, true, true, true, true, true, true, true, true, true, true, true, true, true, true, true, true, true, false, false, false] rfl rfl (by kernel_rfl) (fun _ _ _ h => h) (Or.inr ⟨by rfl, rfl⟩) ?_ ?_
      rotate_left
      · simp only [Act.put, List.setIfInBounds_toArray, List.set_cons_zero, List.set_cons_succ, i64_w, i32_w]
        rfl
      refine pure_ (i := 19) (N := some 27) (v := undef) (a' := ?_) #[true, true, true, true, true, true, true, true, true, true, true, true, true, true, true, true, true, true, true, true, false, false] rfl rfl (by kernel_rfl) (fun _ _ _ h => h) (Or.inr ⟨by rfl, rfl⟩) ?_ ?_
      rotate_left
      · simp only [Act.put, List.setIfInBounds_toArray, List.set_cons_zero, List.set_cons_succ, i64_w, i32_w]
        rfl
      refine pure_ (i := 20) (N := some 28) (v := undef) (a' := ?_) #[true, true, true, true, true, true, true, true, true, true, true, true, true, true, true, true, true, true, true, true, true, false] rfl rfl (by kernel_rfl) (fun _ _ _ h => h) (Or.inr ⟨by rfl, rfl⟩) ?_ ?_
      rotate_left
      · simp only [Act.put, List.setIfInBounds_toArray, List.set_cons_zero, List.set_cons_succ, i64_w, i32_w]
        rfl
      refine pure_ (i := 21) (N := some 29) (v := ?_) (a' := ?_) #[true, true, true, true, true, true, true, true, true, true, true, true, true, true, true, true, true, true, true, true, true, true] rfl rfl (by kernel_rfl) (fun _ _ _ h => h) (Or.inl ⟨by rfl, ?_⟩) ?_ ?_
      rotate_left
      · intro w'
        go_simp
        with_reducible rfl
      rotate_left
      · simp only [Act.put, List.setIfInBounds_toArray, List.set_cons_zero, List.set_cons_succ, i64_w, i32_w]
        rfl
      refine done_ (by kernel_rfl) ?_
      -- ENDR2c
      go_wp2
      go_quiet (fail)
      go_wp2
      go_ret
      exact ⟨by rw [HRR.out.1, ← hex]; rfl, ⟨j, HJL.out, HRR.out.2.symm, HX.out, hg⟩, pw_below_drewN (b_drew HBw.out) _, HK.out⟩
end Go.Proofs.Ytdnehnjcbdkgcaa
namespace Go.Proofs.Ytdnehnjcbdkgcaa
set_option linter.unusedVariables false
set_option linter.unusedSimpArgs false
open Go.RowKit Go.Shelf Go.Proofs.YtdnehnjcbdkgcaaW.PrintWords Go.Proofs.YtdnehnjcbdkgcaaW.PrintLast PKindReads

/-- the value, what is left, is it one -/
def valT (r : List Int) : List Int × List Int × Bool := if hasP 34 r = true then quoR (quoL [] (r.drop 1)) else (tokL r, restL r, tokenB (tokL r))
theorem ttoken_tx (l r : List Int) (g : Nat) (w0 w : World) (hb : Bytes l) (hl : l.length ≤ 4294967296) (hT : TX w0 w g l r) (hB : Below w0.heap.size w0 w) :
    Calls Try.prog 28 #[.pointer (some ⟨g, 0, none⟩)] w (TXEnds w0 w g l (restL r) (.string (St (tokL r)))) := by
  obtain ⟨i, hi, rfl, hI⟩ := hT
  exact ttoken_any l i g w0 w hb hl hi hI hB
theorem rtoken_any {l : List Int} (hb : Bytes l) (hl : l.length ≤ 4611686018427387904) (w : World) : Calls Try.prog 36 #[.string (St l)] w fun e w' => e = .returned (.bool (tokenB l)) ∧ Below w.heap.size w w' := by
  obtain ⟨k, hk⟩ := (token_ev hb hl).get
  exact posthornref08_Token.calls k (St l) (tokenB l) w hk
theorem TX.bytes {w0 w : World} {g : Nat} {l r : List Int} (h : TX w0 w g l r) (hb : Bytes l) : Bytes r ∧ r.length ≤ l.length := by
  obtain ⟨i, hi, rfl, _⟩ := h
  exact ⟨hb.drop i, by rw [List.length_drop]; omega⟩
theorem TX.below {w0 w w1 : World} {g : Nat} {l r : List Int} (h : TX w0 w g l r) (hb : Below w.heap.size w w1) : TX w0 w1 g l r := by
  obtain ⟨i, hi, hr, h1, h2⟩ := h
  exact ⟨i, hi, hr, blk_below h1 hb, h2⟩
set_option maxRecDepth 100000 in
set_option maxHeartbeats 4000000 in
theorem tvalue_tok (l r : List Int) (g : Nat) (w0 w : World) (hb : Bytes l) (hl : l.length ≤ 4294967296) (hT : TX w0 w g l r) (hB : Below w0.heap.size w0 w) (hh : hasP 34 r = false) :
    Calls Try.prog 30 #[.pointer (some ⟨g, 0, none⟩)] w (TXEnds w0 w g l (restL r) (.tuple #[.string (St (tokL r)), .bool (tokenB (tokL r))])) := by
  obtain ⟨hrb, hrl⟩ := hT.bytes hb
  have hcut : (cutP 34 r).getD r = r := by
    rcases hc : cutP 34 r with _ | t
    · rfl
    · unfold hasP at hh; rw [hc] at hh; cases hh
  have HIS := Lib.hid (fun (W : World) (hT : TX w0 W g l r) (hB : Below w0.heap.size w0 W) => tis_any 34 l r g w0 W hb hl hT hB)
  have HTK := Lib.hid (fun (W : World) (hT : TX w0 W g l r) (hB : Below w0.heap.size w0 W) => ttoken_tx l r g w0 W hb hl hT hB)
  have HRT := Lib.hid (rtoken_any (tokL_bytes hrb) (Nat.le_trans (tokL_len r) (by omega)))
  rw [hh, hcut] at HIS
  unfold TXEnds at *
  have HT := Lib.hid hT
  have HB := Lib.hid hB
  clear hT hB hh hcut hrb hrl
  generalize tokenB (tokL r) = T at *
  generalize St (tokL r) = z at *
  go_enter Try.func30, Try.ntmps30
  go_wp2_with (first
    | (go_at_call 29; ((with_reducible refine (HIS.out _ HT.out HB.out).mono ?_); rintro e w1 ⟨rfl, hT1, hB1, hK1⟩; have HT1 := Lib.hid hT1; have HB1 := Lib.hid hB1; have HK1 := Lib.hid hK1; clear hT1 hB1 hK1))
    | (go_at_call 28; ((with_reducible refine (HTK.out _ HT1.out HB1.out).mono ?_); rintro e w2 ⟨rfl, hT1, hB1, hK1⟩; have HT2 := Lib.hid hT1; have HB2 := Lib.hid hB1; have HK2 := Lib.hid (KeepBut.trans HK1.out hK1 (.inl rfl)); clear hT1 hB1 hK1))
    | (go_at_call 36; ((with_reducible refine (HRT.out _).mono ?_); rintro e w3 ⟨rfl, hB⟩; have HT3 := Lib.hid (HT2.out.below hB); have HB3 := Lib.hid (below_then HB2.out HB2.out.size hB); have HK3 := Lib.hid (KeepBut.then_below HK2.out hB); clear hB)))
  go_ret2
  exact ⟨rfl, HT3.out, HB3.out, HK3.out⟩
theorem TX.drewN {w0 w : World} {g : Nat} {l r : List Int} (h : TX w0 w g l r) (n : Nat) : TX w0 (w.drewN n) g l r := h
theorem KeepBut.drewN_ {w w1 : World} {g : Nat} (h : KeepBut w w1 g none) (n : Nat) : KeepBut w (w1.drewN n) g none := h
theorem drop_cons {l t : List Int} {c : Int} {j : Nat} (h : l.drop j = c :: t) : j < l.length ∧ rd l (j : Int) = c ∧ l.drop (j + 1) = t ∧ (l.take (j + 1)).drop j = [c] := by
  have hj : j < l.length := by
    rcases Nat.lt_or_ge j l.length with h2 | h2
    · exact h2
    · rw [List.drop_eq_nil_of_le h2] at h; cases h
  have hd := List.drop_eq_getElem_cons hj
  rw [h, ← rd_lt l j hj] at hd
  injection hd with h1 h2
  exact ⟨hj, h1.symm, h2.symm, by rw [one_at l j hj, ← h1]⟩
set_option maxRecDepth 100000 in
set_option maxHeartbeats 4000000 in
theorem tvalue_quo (l q : List Int) (g : Nat) (w0 w : World) (hb : Bytes l) (hl : l.length ≤ 4294967296) (hT : TX w0 w g l (34 :: q)) (hB : Below w0.heap.size w0 w) :
    Calls Try.prog 30 #[.pointer (some ⟨g, 0, none⟩)] w fun e w' => e = .returned (.tuple #[.string (St (quoR (quoL [] q)).1), .bool (quoR (quoL [] q)).2.2]) ∧ TX w0 w' g l (quoR (quoL [] q)).2.1 ∧ Below w0.heap.size w0 w' ∧ KeepBut w w' g none := by
  have hg : w0.heap.size ≤ g := by obtain ⟨_, _, _, _, h⟩ := hT; exact h
  have HIS := Lib.hid (tis_any 34 l (34 :: q) g w0 w hb hl hT hB)
  rw [show hasP 34 (34 :: q) = true by unfold hasP; rw [cutP_hit]; rfl, cutP_hit, Option.getD_some] at HIS
  unfold TXEnds at HIS
  have hrb := (hT.bytes hb)
  have HBY := Lib.hid hb
  have HLL := Lib.hid hl
  have hsz := St_size l
  have HEX0 := Lib.hid (fun j => St_extract l j (j + 1))
  obtain ⟨R, hR⟩ : ∃ R, quoL [] q = R := ⟨_, rfl⟩
  rw [hR]
  generalize hs : St l = s at *
  have HS := Lib.hid hs
  have HSZ := Lib.hid hsz
  clear hsz hb hT hB hs
  go_enter Try.func30, Try.ntmps30
  go_wp2_with (first
    | (go_at_call 29; ((with_reducible refine HIS.out.mono ?_); rintro e w1 ⟨rfl, hT1, hB1, hK1⟩; have HT1 := Lib.hid hT1; have HB1 := Lib.hid hB1; have HK1 := Lib.hid hK1; clear hT1 hB1 hK1)))
  go_loopw [5] (fun s5 wr => ∃ (acc r : List Int), s5 = .string (St acc) ∧ Hid (Bytes acc) ∧ Hid (acc.length + r.length ≤ l.length) ∧ Hid (TX w0 wr g l r) ∧ Hid (Below w0.heap.size w0 wr) ∧ Hid (KeepBut w wr g none) ∧ Hid (quoL acc r = R)) (fun _ wr => s.size - atT wr g)
  case atStart => exact ⟨[], q, rfl, Lib.hid (by intro x hx; cases hx), Lib.hid (by have := hrb.2; simp at *; omega), HT1, HB1, HK1, Lib.hid hR⟩
  case round =>
    obtain ⟨acc, r, rfl, HAB, HAL, HT, HB, HK, HQ⟩ := hrel
    clear HT1 HB1 HK1 hR HIS
    obtain ⟨j, hj, hr, hX, _⟩ := HT.out
    rw [HS.out] at hX
    have HX := Lib.hid hX
    have k0 : wr.cell? ⟨g, 0, none⟩ = some (.string s) := (blk_cell HX.out 0).trans rfl
    have k1 : wr.cell? ⟨g, 1, none⟩ = some (.int .i64 (j : Int)) := (blk_cell HX.out 1).trans rfl
    clear hX
    rcases r with _ | ⟨c, t⟩
    · have hq := HQ.out
      rw [quoL_end] at hq
      have HRR := Lib.hid hq.symm
      have hdec : decide (j < s.size) = false := decide_eq_false (by
        have := congrArg List.length hr
        rw [List.length_drop] at this
        have := HSZ.out
        simp only [List.length_nil] at *
        omega)
      clear hq HQ hr hj
      go_wp2
      go_quiet (fail)
      go_wp2
      go_ret2
      exact ⟨by rw [HRR.out]; rfl, by rw [HRR.out]; exact HT.out.drewN _, pw_below_drewN HB.out _, KeepBut.drewN_ HK.out _⟩
    · have hdc := drop_cons hr
      have hlt : j < s.size := by have := HSZ.out; omega
      have HJ : Hid (j < l.length ∧ l.drop j = c :: t) := Lib.hid ⟨hdc.1, hr⟩
      have hls : s.size ≤ 4294967296 := by have := HSZ.out; have := HLL.out; omega
      clear hdc hr hj
      by_cases c1 : c = 34
      · have hq := HQ.out
        rw [quoL_q _ _ _ c1] at hq
        have HRR := Lib.hid hq.symm
        have H34 : Hid (hasP 34 (c :: t) = true) := Lib.hid (by unfold hasP; rw [cutP_cons, if_pos c1]; rfl)
        have HC34 : Hid ((cutP 34 (c :: t)).getD (c :: t) = t) := Lib.hid (by rw [cutP_cons, if_pos c1]; rfl)
        have HI34 := Lib.hid (fun n => by have h := tis_any 34 l (c :: t) g w0 (wr.drewN n) HBY.out HLL.out (HT.out.drewN n) (pw_below_drewN HB.out n); unfold TXEnds at h; rw [H34.out, HC34.out] at h; exact h)
        clear hq HQ c1
        go_wp2
        go_quiet (fail)
        go_wp2_with (first
          | (go_at_call 29; ((with_reducible refine (HI34.out _).mono ?_); rintro e w1 ⟨rfl, hT1, hB1, hK1⟩; have HT1 := Lib.hid hT1; have HB1 := Lib.hid hB1; have HK1 := Lib.hid (KeepBut.trans (KeepBut.drewN_ HK.out _) hK1 (.inl rfl)); clear hT1 hB1 hK1)))
        go_ret2
        exact ⟨by rw [HRR.out]; rfl, by rw [HRR.out]; exact HT1.out, HB1.out, HK1.out⟩
      · have H34 : Hid (hasP 34 (c :: t) = false) := Lib.hid (by unfold hasP; rw [cutP_cons, if_neg c1]; rfl)
        have HC34 : Hid ((cutP 34 (c :: t)).getD (c :: t) = c :: t) := Lib.hid (by rw [cutP_cons, if_neg c1]; rfl)
        have hbr := (HT.out.bytes HBY.out).1
        by_cases c2 : c = 92
        · have H92 : Hid (hasP 92 (c :: t) = true) := Lib.hid (by unfold hasP; rw [cutP_cons, if_pos c2]; rfl)
          have HC92 : Hid ((cutP 92 (c :: t)).getD (c :: t) = t) := Lib.hid (by rw [cutP_cons, if_pos c2]; rfl)
          rcases t with _ | ⟨d, rest⟩
          · have hq := HQ.out
            rw [quoL_e0 _ _ c2] at hq
            have HQ2 : Hid (quoL acc [] = R) := Lib.hid (by rw [quoL_end]; exact hq)
            have HI34 := Lib.hid (fun n => by have h := tis_any 34 l [c] g w0 (wr.drewN n) HBY.out HLL.out (HT.out.drewN n) (pw_below_drewN HB.out n); unfold TXEnds at h; rw [H34.out, HC34.out] at h; exact h)
            have HI92 := Lib.hid (fun (W : World) (hT : TX w0 W g l (c :: [])) (hB : Below w0.heap.size w0 W) => by have h := tis_any 92 l (c :: []) g w0 W HBY.out HLL.out hT hB; unfold TXEnds at h; rw [H92.out, HC92.out] at h; exact h)
            clear hq HQ c1 c2 hbr
            go_wp2
            go_quiet (fail)
            go_wp2_with (first
              | (go_at_call 29; ((with_reducible refine (HI34.out _).mono ?_); rintro e w1 ⟨rfl, hT1, hB1, hK1⟩; have HT1 := Lib.hid hT1; have HB1 := Lib.hid hB1; have HK1 := Lib.hid (KeepBut.trans (KeepBut.drewN_ HK.out _) hK1 (.inl rfl)); clear hT1 hB1 hK1))
              | (go_at_call 29; ((with_reducible refine (HI92.out _ HT1.out HB1.out).mono ?_); rintro e w2 ⟨rfl, hT2, hB2, hK2⟩; obtain ⟨j2, hj2, hr2, hX2, _⟩ := hT2; rw [HS.out] at hX2; have HX2 := Lib.hid hX2; have HB2 := Lib.hid hB2; have HK2 := Lib.hid (KeepBut.trans HK1.out hK2 (.inl rfl)); have m0 : w2.cell? ⟨g, 0, none⟩ = some (.string s) := (blk_cell HX2.out 0).trans rfl; have m1 : w2.cell? ⟨g, 1, none⟩ = some (.int .i64 (j2 : Int)) := (blk_cell HX2.out 1).trans rfl; have y1 := blk_frozen HX2.out 1; have hge2 : decide (j2 < s.size) = false := decide_eq_false (by have := congrArg List.length hr2; rw [List.length_drop] at this; have := HSZ.out; simp only [List.length_nil] at *; omega); have HJ2 : Hid (j < j2 ∧ j2 ≤ l.length ∧ l.drop j2 = []) := Lib.hid ⟨by have := congrArg List.length hr2; rw [List.length_drop] at this; have := HJ.out.1; simp only [List.length_nil] at *; omega, hj2, hr2⟩; clear hB2 hK2 hX2 hr2 hj2)))
            go_quiet (fail)
            go_wp2
            have hat := atT_eq HX.out
            go_roundw
            case rel => exact ⟨acc, [], rfl, HAB, Lib.hid (by have := HAL.out; simp at *; omega), Lib.hid ⟨j2, HJ2.out.2.1, HJ2.out.2.2, by rw [HS.out]; exact HX2.out, hg⟩, Lib.hid (pw_below_drewN HB2.out _), Lib.hid (KeepBut.drewN_ HK2.out _), HQ2⟩
            case measure =>
              have hat2 : atT (w2.drewN nq) g = _ := atT_eq HX2.out
              rw [hat2, hat]
              have := HJ2.out
              omega
          · have hq := HQ.out
            rw [quoL_e _ _ _ _ c2] at hq
            have HQ2 := Lib.hid hq
            have H92 : Hid (hasP 92 (c :: (d :: rest)) = true) := Lib.hid (by unfold hasP; rw [cutP_cons, if_pos c2]; rfl)
            have HC92 : Hid ((cutP 92 (c :: (d :: rest))).getD (c :: (d :: rest)) = d :: rest) := Lib.hid (by rw [cutP_cons, if_pos c2]; rfl)
            have HBA2 : Hid (Bytes (acc ++ [d])) := Lib.hid (bytes_app HAB.out (one_bytes (hbr d (by simp))))
            have HAL2 : Hid ((acc ++ [d]).length + (rest).length ≤ l.length) := Lib.hid (by have := HAL.out; simp only [List.length_append, List.length_cons, List.length_nil] at *; omega)
            have HJL : Hid (∀ j2, j2 ≤ l.length → l.drop j2 = d :: rest → j ≤ j2) := Lib.hid (fun j2 h1 h2 => by
              have e1 := congrArg List.length h2
              have e2 := congrArg List.length HJ.out.2
              rw [List.length_drop] at e1 e2
              have := HJ.out.1
              simp only [List.length_cons] at e1 e2
              omega)
            have HEX : Hid (∀ j2, (l.take (j2 + 1)).drop j2 = [d] → s.extract j2 (j2 + 1) = St [d]) := Lib.hid (fun j2 h => by rw [HEX0.out j2, h])
            have HCC : Hid (St acc ++ St [d] = St (acc ++ [d])) := Lib.hid (St_append _ _)
            have hz1 := St_size acc
            have hz2 := St_size [d]
            have f1 : (9223372036854775807 < (St acc).size + (St [d]).size) = False := eq_false (by have := HAL.out; have := HLL.out; simp only [List.length_cons, List.length_nil] at *; omega)
            clear hz1 hz2 hq HQ hbr c1 c2
            generalize St acc = sa at *
            generalize St [d] = sd at *
            have HI34 := Lib.hid (fun n => by have h := tis_any 34 l (c :: (d :: rest)) g w0 (wr.drewN n) HBY.out HLL.out (HT.out.drewN n) (pw_below_drewN HB.out n); unfold TXEnds at h; rw [H34.out, HC34.out] at h; exact h)
            have HI92 := Lib.hid (fun (W : World) (hT : TX w0 W g l (c :: (d :: rest))) (hB : Below w0.heap.size w0 W) => by have h := tis_any 92 l (c :: (d :: rest)) g w0 W HBY.out HLL.out hT hB; unfold TXEnds at h; rw [H92.out, HC92.out] at h; exact h)
            go_wp2
            go_quiet (fail)
            go_wp2_with (first
              | (go_at_call 29; ((with_reducible refine (HI34.out _).mono ?_); rintro e w1 ⟨rfl, hT1, hB1, hK1⟩; have HT1 := Lib.hid hT1; have HB1 := Lib.hid hB1; have HK1 := Lib.hid (KeepBut.trans (KeepBut.drewN_ HK.out _) hK1 (.inl rfl)); clear hT1 hB1 hK1))
              | (go_at_call 29; ((with_reducible refine (HI92.out _ HT1.out HB1.out).mono ?_); rintro e w2 ⟨rfl, hT2, hB2, hK2⟩; obtain ⟨j2, hj2, hr2, hX2, _⟩ := hT2; rw [HS.out] at hX2; have HX2 := Lib.hid hX2; have HB2 := Lib.hid hB2; have HK2 := Lib.hid (KeepBut.trans HK1.out hK2 (.inl rfl)); have m0 : w2.cell? ⟨g, 0, none⟩ = some (.string s) := (blk_cell HX2.out 0).trans rfl; have m1 : w2.cell? ⟨g, 1, none⟩ = some (.int .i64 (j2 : Int)) := (blk_cell HX2.out 1).trans rfl; have y1 := blk_frozen HX2.out 1; have hdc := drop_cons hr2; have hlt2 : j2 < s.size := (by have := HSZ.out; omega); have hex : s.extract j2 (j2 + 1) = sd := HEX.out j2 hdc.2.2.2; have HD2 := Lib.hid hdc.2.2.1; have hle2 : j2 + 1 ≤ s.size := (by omega); have HJ2 : Hid (j ≤ j2 ∧ j2 < l.length) := Lib.hid ⟨HJL.out j2 hj2 hr2, hdc.1⟩; clear hdc; clear hB2 hK2 hX2 hr2 hj2)))
            go_quiet (fail)
            go_wp2
            go_quiet (fail)
            go_wp2
            have hat := atT_eq HX.out
            go_roundw
            case rel => exact ⟨acc ++ [d], rest, by rw [← HCC.out], HBA2, HAL2, Lib.hid ⟨j2 + 1, by have := HJ2.out; omega, HD2.out, by rw [HS.out]; exact blk_set (w := w2.drewN _) HX2.out 1 _, hg⟩, Lib.hid (below_set (pw_below_drewN HB2.out _) hg), Lib.hid (KeepBut.set_ (KeepBut.drewN_ HK2.out _) 1 _), HQ2⟩
            case measure =>
              have hat2 : ∀ n, atT ((w2.drewN n).setCell ⟨g, 1, none⟩ (.int .i64 ((j2 : Int) + 1))) g = j2 + 1 := fun n => (atT_eq (blk_set (w := w2.drewN n) HX2.out 1 _)).trans (by omega)
              rw [hat2, hat]
              have := HJ2.out
              have := HSZ.out
              omega
        · have hq := HQ.out
          rw [quoL_s _ _ _ c1 c2] at hq
          have HQ2 := Lib.hid hq
          have H92 : Hid (hasP 92 (c :: t) = false) := Lib.hid (by unfold hasP; rw [cutP_cons, if_neg c2]; rfl)
          have HC92 : Hid ((cutP 92 (c :: t)).getD (c :: t) = c :: t) := Lib.hid (by rw [cutP_cons, if_neg c2]; rfl)
          have HBA2 : Hid (Bytes (acc ++ [c])) := Lib.hid (bytes_app HAB.out (one_bytes (hbr c (by simp))))
          have HAL2 : Hid ((acc ++ [c]).length + (t).length ≤ l.length) := Lib.hid (by have := HAL.out; simp only [List.length_append, List.length_cons, List.length_nil] at *; omega)
          have HJL : Hid (∀ j2, j2 ≤ l.length → l.drop j2 = c :: t → j ≤ j2) := Lib.hid (fun j2 h1 h2 => by
            have e1 := congrArg List.length h2
            have e2 := congrArg List.length HJ.out.2
            rw [List.length_drop] at e1 e2
            have := HJ.out.1
            simp only [List.length_cons] at e1 e2
            omega)
          have HEX : Hid (∀ j2, (l.take (j2 + 1)).drop j2 = [c] → s.extract j2 (j2 + 1) = St [c]) := Lib.hid (fun j2 h => by rw [HEX0.out j2, h])
          have HCC : Hid (St acc ++ St [c] = St (acc ++ [c])) := Lib.hid (St_append _ _)
          have hz1 := St_size acc
          have hz2 := St_size [c]
          have f1 : (9223372036854775807 < (St acc).size + (St [c]).size) = False := eq_false (by have := HAL.out; have := HLL.out; simp only [List.length_cons, List.length_nil] at *; omega)
          clear hz1 hz2 hq HQ hbr c1 c2
          generalize St acc = sa at *
          generalize St [c] = sd at *
          have HI34 := Lib.hid (fun n => by have h := tis_any 34 l (c :: t) g w0 (wr.drewN n) HBY.out HLL.out (HT.out.drewN n) (pw_below_drewN HB.out n); unfold TXEnds at h; rw [H34.out, HC34.out] at h; exact h)
          have HI92 := Lib.hid (fun (W : World) (hT : TX w0 W g l (c :: t)) (hB : Below w0.heap.size w0 W) => by have h := tis_any 92 l (c :: t) g w0 W HBY.out HLL.out hT hB; unfold TXEnds at h; rw [H92.out, HC92.out] at h; exact h)
          go_wp2
          go_quiet (fail)
          go_wp2_with (first
            | (go_at_call 29; ((with_reducible refine (HI34.out _).mono ?_); rintro e w1 ⟨rfl, hT1, hB1, hK1⟩; have HT1 := Lib.hid hT1; have HB1 := Lib.hid hB1; have HK1 := Lib.hid (KeepBut.trans (KeepBut.drewN_ HK.out _) hK1 (.inl rfl)); clear hT1 hB1 hK1))
            | (go_at_call 29; ((with_reducible refine (HI92.out _ HT1.out HB1.out).mono ?_); rintro e w2 ⟨rfl, hT2, hB2, hK2⟩; obtain ⟨j2, hj2, hr2, hX2, _⟩ := hT2; rw [HS.out] at hX2; have HX2 := Lib.hid hX2; have HB2 := Lib.hid hB2; have HK2 := Lib.hid (KeepBut.trans HK1.out hK2 (.inl rfl)); have m0 : w2.cell? ⟨g, 0, none⟩ = some (.string s) := (blk_cell HX2.out 0).trans rfl; have m1 : w2.cell? ⟨g, 1, none⟩ = some (.int .i64 (j2 : Int)) := (blk_cell HX2.out 1).trans rfl; have y1 := blk_frozen HX2.out 1; have hdc := drop_cons hr2; have hlt2 : j2 < s.size := (by have := HSZ.out; omega); have hex : s.extract j2 (j2 + 1) = sd := HEX.out j2 hdc.2.2.2; have HD2 := Lib.hid hdc.2.2.1; have hle2 : j2 + 1 ≤ s.size := (by omega); have HJ2 : Hid (j ≤ j2 ∧ j2 < l.length) := Lib.hid ⟨HJL.out j2 hj2 hr2, hdc.1⟩; clear hdc; clear hB2 hK2 hX2 hr2 hj2)))
          go_quiet (fail)
          go_wp2
          go_quiet (fail)
          go_wp2
          have hat := atT_eq HX.out
          go_roundw
          case rel => exact ⟨acc ++ [c], t, by rw [← HCC.out], HBA2, HAL2, Lib.hid ⟨j2 + 1, by have := HJ2.out; omega, HD2.out, by rw [HS.out]; exact blk_set (w := w2.drewN _) HX2.out 1 _, hg⟩, Lib.hid (below_set (pw_below_drewN HB2.out _) hg), Lib.hid (KeepBut.set_ (KeepBut.drewN_ HK2.out _) 1 _), HQ2⟩
          case measure =>
            have hat2 : ∀ n, atT ((w2.drewN n).setCell ⟨g, 1, none⟩ (.int .i64 ((j2 : Int) + 1))) g = j2 + 1 := fun n => (atT_eq (blk_set (w := w2.drewN n) HX2.out 1 _)).trans (by omega)
            rw [hat2, hat]
            have := HJ2.out
            have := HSZ.out
            omega
theorem tvalue_any (l r : List Int) (g : Nat) (w0 w : World) (hb : Bytes l) (hl : l.length ≤ 4294967296) (hT : TX w0 w g l r) (hB : Below w0.heap.size w0 w) :
    Calls Try.prog 30 #[.pointer (some ⟨g, 0, none⟩)] w fun e w' => e = .returned (.tuple #[.string (St (valT r).1), .bool (valT r).2.2]) ∧ TX w0 w' g l (valT r).2.1 ∧ Below w0.heap.size w0 w' ∧ KeepBut w w' g none := by
  unfold valT
  by_cases h : hasP 34 r = true
  · rw [if_pos h]
    rcases hc : cutP 34 r with _ | q
    · unfold hasP at h; rw [hc] at h; cases h
    · obtain rfl := cutP_of hc
      exact tvalue_quo l q g w0 w hb hl hT hB
  · rw [if_neg h]
    exact tvalue_tok l r g w0 w hb hl hT hB (by simpa using h)
end Go.Proofs.Ytdnehnjcbdkgcaa
namespace Go.Proofs.Ytdnehnjcbdkgcaa
set_option linter.unusedVariables false
set_option linter.unusedSimpArgs false

/-- the value, what is left, is it one (as in K22) -/
def valT' (r : List Int) : List Int × List Int × Bool := if hasP 34 r = true then quoR (quoL [] (r.drop 1)) else (tokL r, restL r, tokenB (tokL r))
/-- The parameters, as the document reads them: no blank stands in front. -/
def readT : Nat → List Int → List Pm → Option (List Pm)
  | 0, _, _ => none
  | f + 1, r, ps =>
    if r = [] then some ps else
    match cutP 59 r with
    | none => none
    | some q => if blankL q = [] then some ps else
      match cutP 61 (restL (blankL q)) with
      | none => none
      | some q2 => if (valT' q2).2.2 = true then readT f (blankL (valT' q2).2.1) (ps ++ [(lowL (tokL (blankL q)), (valT' q2).1)]) else none
theorem readT_eq : ∀ (f : Nat) (rest : List Int) (ps : List Pm), readP f rest ps = readT f (blankL rest) ps := by
  intro f
  induction f with
  | zero => intro rest ps; rw [readP, readT]
  | succ f ih =>
    intro rest ps
    rw [readP, readT]
    by_cases h : blankL rest = []
    · rw [if_pos h, if_pos h]
    · rw [if_neg h, if_neg h]
      rcases hc : cutP 59 (blankL rest) with _ | q
      · rfl
      · simp only
        by_cases h2 : blankL q = []
        · rw [if_pos h2, if_pos h2]
        · rw [if_neg h2, if_neg h2]
          unfold paramL
          rcases hc2 : cutP 61 (restL (blankL q)) with _ | q2
          · simp
          · simp only
            by_cases h3 : hasP 34 q2 = true
            · have hv : valT' q2 = quoR (quoL [] (q2.drop 1)) := by unfold valT'; rw [if_pos h3]
              rw [if_pos h3, hv, ih]
            · have hv : valT' q2 = (tokL q2, restL q2, tokenB (tokL q2)) := by unfold valT'; rw [if_neg h3]
              rw [if_neg h3, hv, ih]
end Go.Proofs.Ytdnehnjcbdkgcaa
namespace Go.Proofs.Ytdnehnjcbdkgcaa
set_option linter.unusedVariables false
set_option linter.unusedSimpArgs false
open Go.RowKit Go.Shelf Go.Proofs.YtdnehnjcbdkgcaaW.PrintWords Go.Proofs.YtdnehnjcbdkgcaaW.PrintLast PKindReads

theorem rlower_any {l : List Int} (hb : Bytes l) (hl : l.length ≤ 140737488351232) (w : World) : Calls Try.prog 21 #[.string (St l)] w fun e w' => e = .returned (.string (St (lowL l))) ∧ Below w.heap.size w w' := by
  obtain ⟨k, hk⟩ := (lower_ev hb hl).get
  exact posthornref04_Lower.calls k (St l) (St (lowL l)) w hk
theorem paramL_val {l q2 : List Int} (h : cutP 61 (restL l) = some q2) : paramL l = (lowL (tokL l), (valT q2).1, (valT q2).2.1, (valT q2).2.2) := by
  unfold paramL
  rw [h]
  simp only
  by_cases h3 : hasP 34 q2 = true
  · have hv : valT q2 = quoR (quoL [] (q2.drop 1)) := by unfold valT; rw [if_pos h3]
    rw [if_pos h3, hv]
  · have hv : valT q2 = (tokL q2, restL q2, tokenB (tokL q2)) := by unfold valT; rw [if_neg h3]
    rw [if_neg h3, hv]
abbrev zeroK : Array Value := #[.string ⟨#[]⟩, .string ⟨#[]⟩, .slice none 0 0]
/-- What Read has while it reads: the result's block a, the bad kind's b, the Text's g. -/
structure RS0 (w wr : World) (a b g : Nat) (l r : List Int) : Prop where
  F : wr.heap[a]? = some (.cells zeroK 25 (0, 0))
  D : wr.heap[b]? = some (.cells zeroK 25 (0, 0))
  T : TX w wr g l r
  B : Below w.heap.size w wr
  na : w.heap.size ≤ a
  nb : w.heap.size ≤ b
  ab : a ≠ b
/-- and the kind's block k -/
structure RS (w wr : World) (a b g k : Nat) (l r : List Int) (z1 z2 : ByteArray) (v : Value) : Prop where
  Z : RS0 w wr a b g l r
  K : wr.heap[k]? = some (.cells #[.string z1, .string z2, v] 25 (0, 0))
  nk : w.heap.size ≤ k
  ak : a ≠ k
  bk : b ≠ k
theorem TX.blk {w0 w : World} {g : Nat} {l r : List Int} (h : TX w0 w g l r) : ∃ i : Nat, w.heap[g]? = some (.cells #[.string (St l), .int .i64 (i : Int)] 50 (0, 0)) := by
  obtain ⟨i, hi, hr, h1, h2⟩ := h
  exact ⟨i, h1⟩
theorem TX.ne {w0 w : World} {g a : Nat} {l r : List Int} {cs : Array Value} (h : TX w0 w g l r) (ha : w.heap[a]? = some (.cells cs 25 (0, 0))) : a ≠ g := by
  obtain ⟨i, hi⟩ := h.blk
  exact blk_ne ha hi (by decide)
theorem TX.ge {w0 w : World} {g : Nat} {l r : List Int} (h : TX w0 w g l r) : w0.heap.size ≤ g := by
  obtain ⟨i, hi, hr, h1, h2⟩ := h
  exact h2
theorem TX.keep {w0 w w1 : World} {g : Nat} {l r : List Int} (h : TX w0 w g l r) (hb : w1.heap[g]? = w.heap[g]?) : TX w0 w1 g l r := by
  obtain ⟨i, hi, hr, h1, h2⟩ := h
  exact ⟨i, hi, hr, hb.trans h1, h2⟩
theorem RS0.call {w W W1 : World} {a b g : Nat} {l r r1 : List Int} (h : RS0 w W a b g l r) (hT : TX w W1 g l r1) (hB : Below w.heap.size w W1) (hK : KeepBut W W1 g none) : RS0 w W1 a b g l r1 :=
  ⟨hK.blk h.F (h.T.ne h.F) (by simp), hK.blk h.D (h.T.ne h.D) (by simp), hT, hB, h.na, h.nb, h.ab⟩
theorem RS0.below {w W W1 : World} {a b g : Nat} {l r : List Int} (h : RS0 w W a b g l r) (hb : Below W.heap.size W W1) : RS0 w W1 a b g l r :=
  ⟨blk_below h.F hb, blk_below h.D hb, h.T.below hb, below_then h.B h.B.size hb, h.na, h.nb, h.ab⟩
theorem RS.call {w W W1 : World} {a b g k : Nat} {l r r1 : List Int} {z1 z2 : ByteArray} {v : Value} (h : RS w W a b g k l r z1 z2 v) (hT : TX w W1 g l r1) (hB : Below w.heap.size w W1) (hK : KeepBut W W1 g none) : RS w W1 a b g k l r1 z1 z2 v :=
  ⟨h.Z.call hT hB hK, hK.blk h.K (h.Z.T.ne h.K) (by simp), h.nk, h.ak, h.bk⟩
theorem RS.below {w W W1 : World} {a b g k : Nat} {l r : List Int} {z1 z2 : ByteArray} {v : Value} (h : RS w W a b g k l r z1 z2 v) (hb : Below W.heap.size W W1) : RS w W1 a b g k l r z1 z2 v :=
  ⟨h.Z.below hb, blk_below h.K hb, h.nk, h.ak, h.bk⟩
theorem RS.drewN {w W : World} {a b g k : Nat} {l r : List Int} {z1 z2 : ByteArray} {v : Value} (h : RS w W a b g k l r z1 z2 v) (n : Nat) : RS w (W.drewN n) a b g k l r z1 z2 v :=
  ⟨⟨h.Z.F, h.Z.D, h.Z.T, pw_below_drewN h.Z.B n, h.Z.na, h.Z.nb, h.Z.ab⟩, h.K, h.nk, h.ak, h.bk⟩
/-- the kind's block is laid -/
theorem RS0.new {w W : World} {a b g : Nat} {l r : List Int} (h : RS0 w W a b g l r) : RS w (W.alloc (.cells zeroK 25 (0, 0))) a b g W.heap.size l r ⟨#[]⟩ ⟨#[]⟩ (.slice none 0 0) :=
  ⟨h.below ((Below.refl _ _).alloc (Nat.le_refl _) _), blk_new W _, h.B.size, Nat.ne_of_lt (blk_lt h.F), Nat.ne_of_lt (blk_lt h.D)⟩
theorem RS.set {w W : World} {a b g k : Nat} {l r : List Int} {z1 z2 : ByteArray} {v : Value} (h : RS w W a b g k l r z1 z2 v) (j : Nat) (u : Value) (y1 y2 : ByteArray) (y : Value)
    (he : (#[.string z1, .string z2, v] : Array Value).setIfInBounds j u = #[.string y1, .string y2, y]) : RS w (W.setCell ⟨k, j, none⟩ u) a b g k l r y1 y2 y := by
  have hgk : g ≠ k := (h.Z.T.ne h.K).symm
  refine ⟨⟨blk_far h.Z.F h.ak u, blk_far h.Z.D h.bk u, h.Z.T.keep (Below.heap_setCell W ⟨k, j, none⟩ u g hgk), below_set h.Z.B h.nk, h.Z.na, h.Z.nb, h.Z.ab⟩, ?_, h.nk, h.ak, h.bk⟩
  rw [← he]
  exact blk_set h.K j u
theorem RS.grown {w W W1 : World} {a b g k : Nat} {l r : List Int} {z1 z2 : ByteArray} {v : Value} {ps : List Pm} (h : RS w W a b g k l r z1 z2 v) (hO : PO W w.heap.size v ps) (hg : W.grownBy W1 v.ownBlock) (hB : Below w.heap.size w W1) : RS w W1 a b g k l r z1 z2 v := by
  obtain ⟨i, hi⟩ := h.Z.T.blk
  exact ⟨⟨blk_grown h.Z.F hg (own_ne hO h.Z.F (by decide)), blk_grown h.Z.D hg (own_ne hO h.Z.D (by decide)), h.Z.T.keep (hg.block g (blk_lt hi) (own_ne hO hi (by decide))), hB, h.Z.na, h.Z.nb, h.Z.ab⟩, blk_grown h.K hg (own_ne hO h.K (by decide)), h.nk, h.ak, h.bk⟩
theorem RS.own {w W W1 : World} {a b g k : Nat} {l r : List Int} {z1 z2 : ByteArray} {v : Value} {ps : List Pm} (h : RS w W a b g k l r z1 z2 v) (hO : PO W w.heap.size v ps) (hK : KeepBut W W1 g none) : PO W1 w.heap.size v ps := by
  obtain ⟨i, hi⟩ := h.Z.T.blk
  refine hK.own hO (fun e => own_ne hO hi (by decide) e.symm) ?_
  rcases hv : v.ownBlock with _ | b
  · exact .inl rfl
  · exact .inr (by simp)
/-- what the walk reads at a return with nothing -/
theorem RS0.at_place {w W : World} {a b g : Nat} {l r : List Int} (h : RS0 w W a b g l r) : ∃ i : Nat, i ≤ l.length ∧ l.drop i = r ∧ W.heap[g]? = some (.cells #[.string (St l), .int .i64 (i : Int)] 50 (0, 0)) := by
  obtain ⟨i, hi, hr, h1, h2⟩ := h.T
  exact ⟨i, hi, hr, h1⟩
end Go.Proofs.Ytdnehnjcbdkgcaa
namespace Go.Proofs.Ytdnehnjcbdkgcaa
set_option linter.unusedVariables false
set_option linter.unusedSimpArgs false
open Go.RowKit Go.Shelf Go.Proofs.YtdnehnjcbdkgcaaW.PrintWords Go.Proofs.YtdnehnjcbdkgcaaW.PrintLast PKindReads

set_option maxRecDepth 100000 in
set_option maxHeartbeats 4000000 in
theorem rread_any (l : List Int) (w : World) (hby : Bytes l) (hl : l.length ≤ 4294967296) :
    Calls Try.prog 10 #[.string (St l)] w (ReadEnds w (readK l)) := by
  have HBYL := Lib.hid hby
  have HLL := Lib.hid hl
  have hbb := blankL_bytes hby
  have hbl := blankL_len l
  have hrl := restL_len (blankL l)
  have htl := tokL_len (blankL l)
  have HBLK := Lib.hid (fun (r : List Int) (g : Nat) (W : World) (hT : TX w W g l r) (hB : Below w.heap.size w W) => tblanks_any l r g w W hby hl hT hB)
  have HTOK := Lib.hid (fun (r : List Int) (g : Nat) (W : World) (hT : TX w W g l r) (hB : Below w.heap.size w W) => ttoken_tx l r g w W hby hl hT hB)
  have HIS := Lib.hid (fun (p : Int) (r : List Int) (g : Nat) (W : World) (hT : TX w W g l r) (hB : Below w.heap.size w W) => tis_any p l r g w W hby hl hT hB)
  have HVAL := Lib.hid (fun (r : List Int) (g : Nat) (W : World) (hT : TX w W g l r) (hB : Below w.heap.size w W) => tvalue_any l r g w W hby hl hT hB)
  unfold TXEnds at HBLK HTOK HIS
  obtain ⟨V, hV⟩ : ∃ V, V = readK l := ⟨_, rfl⟩
  rw [← hV]
  rw [readK_eq] at hV
  have hR : ∃ q, readQ l = q := ⟨_, rfl⟩
  obtain ⟨q, hq⟩ := hR
  have hqb : Bytes q := by rw [← hq]; exact cut_bytes 47 (restL_bytes hbb)
  have hql : q.length ≤ l.length := by rw [← hq]; exact Nat.le_trans (cut_len 47 _) (by omega)
  have HSL := Lib.hid (fun (g : Nat) (W : World) (hT : TX w W g l (restL (blankL l))) (hB : Below w.heap.size w W) => by
    have h := HIS.out 47 (restL (blankL l)) g W hT hB
    rw [show (cutP 47 (restL (blankL l))).getD (restL (blankL l)) = q from hq] at h
    exact h)
  have hRR : readR l = if hasP 47 (restL (blankL l)) = true then readT (q.length + 1) (blankL (restL q)) [] else none := by unfold readR; rw [hq, readT_eq]
  rw [hq] at hV
  have hrl2 := restL_len q
  have htl2 := tokL_len q
  have hrb2 := blankL_bytes (restL_bytes hqb)
  have hrl3 := blankL_len (restL q)
  have HB1 := Lib.hid (HBLK.out l)
  have HT1 := Lib.hid (HTOK.out (blankL l))
  have HT2 := Lib.hid (HTOK.out q)
  have HB2 := Lib.hid (HBLK.out (restL q))
  have HL1 := Lib.hid (rlower_any (tokL_bytes hbb) (by omega))
  have HL2 := Lib.hid (rlower_any (tokL_bytes hqb) (by omega))
  have hn1b : Bytes (lowL (tokL (blankL l))) := lowL_bytes (tokL_bytes hbb)
  have hn2b : Bytes (lowL (tokL q)) := lowL_bytes (tokL_bytes hqb)
  have hn1l : (lowL (tokL (blankL l))).length ≤ 4294967296 := by rw [lowL_length]; omega
  have hn2l : (lowL (tokL q)).length ≤ 4294967296 := by rw [lowL_length]; omega
  generalize readR l = R at *
  generalize hasP 47 (restL (blankL l)) = ok0 at *
  have hrest : (blankL (restL q)).length ≤ 4294967296 := by omega
  have hrf : (blankL (restL q)).length < q.length + 1 := by omega
  generalize q.length + 1 = f0 at *
  generalize lowL (tokL (blankL l)) = n1 at *
  generalize lowL (tokL q) = n2 at *
  clear hby hl hbb hbl hrl htl hrl2 hrl3 htl2 hqb hql hq
  generalize blankL (restL q) = r0 at *
  generalize St (tokL q) = s4 at *
  generalize St (tokL (blankL l)) = s2 at *
  generalize restL (blankL l) = r3 at *
  generalize blankL l = r2 at *
  have hls : (St l).size ≤ 4294967296 := by rw [St_size]; exact HLL.out
  obtain ⟨s, hs⟩ : ∃ s, s = St l := ⟨_, rfl⟩
  have HS := Lib.hid hs
  have HSZ := Lib.hid (St_size l)
  rw [← hs] at hls HSZ ⊢
  clear hs
  have HVd := Lib.hid hV
  clear hV
  have HR0 : Hid (RS0 w (((w.alloc (.cells zeroK 25 (0, 0))).alloc (.cells zeroK 25 (0, 0))).alloc (.cells #[.string s, .int .i64 0] 50 (0, 0))) w.heap.size (w.heap.size + 1) (w.heap.size + 1 + 1) l l) := Lib.hid (by
    have b1 := blk_new w (.cells zeroK 25 (0, 0))
    have b2 := blk_new (w.alloc (.cells zeroK 25 (0, 0))) (.cells zeroK 25 (0, 0))
    have b3 := blk_new ((w.alloc (.cells zeroK 25 (0, 0))).alloc (.cells zeroK 25 (0, 0))) (.cells #[.string s, .int .i64 0] 50 (0, 0))
    have e1 : (w.alloc (.cells zeroK 25 (0, 0))).heap.size = w.heap.size + 1 := by simp
    have e2 : ((w.alloc (.cells zeroK 25 (0, 0))).alloc (.cells zeroK 25 (0, 0))).heap.size = w.heap.size + 1 + 1 := by simp
    rw [e1] at b2
    rw [e2] at b3
    refine ⟨blk_alloc (blk_alloc b1 _) _, blk_alloc b2 _, ⟨0, Nat.zero_le _, rfl, by rw [← HS.out]; exact b3, ?_⟩, (((Below.refl _ w).alloc (Nat.le_refl _) _).alloc (by rw [e1]; exact Nat.le_succ _) _).alloc (by rw [e2]; omega) _, Nat.le_refl _, Nat.le_succ _, Nat.ne_of_lt (Nat.lt_succ_self _)⟩
    show w.heap.size ≤ w.heap.size + 1 + 1
    omega)
  generalize hG : w.heap.size + 1 + 1 = g at HR0
  rcases ok0 with _ | _
  · have HV : Hid (V = none) := Lib.hid (by rw [HVd.out, hRR]; rfl)
    clear hRR hrest hrf hrb2 HBLK HTOK HIS HVAL HVd
    go_enter Try.func10, Try.ntmps10
    go_wp2_with (first
      | (go_at_call 27; ((with_reducible refine (HB1.out _ _ HR0.out.T HR0.out.B).mono ?_); rintro e w1 ⟨rfl, hT, hB, hK⟩; have HR1 := Lib.hid (HR0.out.call hT hB hK); clear hT hB hK; have HR2 := Lib.hid HR1.out.new))
      | (go_at_call 28; ((with_reducible refine (HT1.out _ _ HR2.out.Z.T HR2.out.Z.B).mono ?_); rintro e w2 ⟨rfl, hT, hB, hK⟩; have HR3 := Lib.hid (HR2.out.call hT hB hK); clear hT hB hK))
      | (go_at_call 21; ((with_reducible refine (HL1.out _).mono ?_); rintro e w3 ⟨rfl, hB⟩; have HR4 := Lib.hid (HR3.out.below hB); clear hB; have k0 : w3.cell? ⟨w1.heap.size, 0, none⟩ = some (.string ⟨#[]⟩) := (blk_cell HR4.out.K 0).trans rfl; have y0 := blk_frozen HR4.out.K 0; have HR5 := Lib.hid (HR4.out.set 0 (.string (St n1)) (St n1) ⟨#[]⟩ _ rfl)))
      | (go_at_call 29; ((with_reducible refine (HSL.out _ _ HR5.out.Z.T HR5.out.Z.B).mono ?_); rintro e w4 ⟨rfl, hT, hB, hK⟩; have HR6 := Lib.hid (HR5.out.call hT hB hK); clear hT hB hK; have c0 : w4.cell? ⟨w.heap.size, 0, none⟩ = some (.string ⟨#[]⟩) := (blk_cell HR6.out.Z.F 0).trans rfl; have d0 : w4.cell? ⟨w.heap.size + 1, 0, none⟩ = some (.string ⟨#[]⟩) := (blk_cell HR6.out.Z.D 0).trans rfl; have z0 := blk_frozen HR6.out.Z.F 0; have c1 : w4.cell? ⟨w.heap.size, 1, none⟩ = some (.string ⟨#[]⟩) := (blk_cell HR6.out.Z.F 1).trans rfl; have d1 : w4.cell? ⟨w.heap.size + 1, 1, none⟩ = some (.string ⟨#[]⟩) := (blk_cell HR6.out.Z.D 1).trans rfl; have z1 := blk_frozen HR6.out.Z.F 1; have c2 : w4.cell? ⟨w.heap.size, 2, none⟩ = some (.slice none 0 0) := (blk_cell HR6.out.Z.F 2).trans rfl; have d2 : w4.cell? ⟨w.heap.size + 1, 2, none⟩ = some (.slice none 0 0) := (blk_cell HR6.out.Z.D 2).trans rfl; have z2 := blk_frozen HR6.out.Z.F 2)))
    have HF9 := blk_set (blk_set (blk_set HR6.out.Z.F 0 (.string ⟨#[]⟩)) 1 (.string ⟨#[]⟩)) 2 (.slice none 0 0)
    refine bodyPost_ret (results_ct rfl _ _ _ _ _ _ _ rfl HF9 Try.underlying25 rfl (by kernel_rfl)) rfl ?_
    rw [HV.out]
    exact ⟨rfl, below_set (below_set (below_set HR6.out.Z.B (Nat.le_refl _)) (Nat.le_refl _)) (Nat.le_refl _)⟩
  · rw [if_pos rfl] at hRR
    go_enter Try.func10, Try.ntmps10
    go_wp2_with (first
      | (go_at_call 27; ((with_reducible refine (HB1.out _ _ HR0.out.T HR0.out.B).mono ?_); rintro e w1 ⟨rfl, hT, hB, hK⟩; have HR1 := Lib.hid (HR0.out.call hT hB hK); clear hT hB hK; have HR2 := Lib.hid HR1.out.new))
      | (go_at_call 28; ((with_reducible refine (HT1.out _ _ HR2.out.Z.T HR2.out.Z.B).mono ?_); rintro e w2 ⟨rfl, hT, hB, hK⟩; have HR3 := Lib.hid (HR2.out.call hT hB hK); clear hT hB hK))
      | (go_at_call 21; ((with_reducible refine (HL1.out _).mono ?_); rintro e w3 ⟨rfl, hB⟩; have HR4 := Lib.hid (HR3.out.below hB); clear hB; have k0 : w3.cell? ⟨w1.heap.size, 0, none⟩ = some (.string ⟨#[]⟩) := (blk_cell HR4.out.K 0).trans rfl; have y0 := blk_frozen HR4.out.K 0; have HR5 := Lib.hid (HR4.out.set 0 (.string (St n1)) (St n1) ⟨#[]⟩ _ rfl)))
      | (go_at_call 29; ((with_reducible refine (HSL.out _ _ HR5.out.Z.T HR5.out.Z.B).mono ?_); rintro e w4 ⟨rfl, hT, hB, hK⟩; have HR6 := Lib.hid (HR5.out.call hT hB hK); clear hT hB hK))
      | (go_at_call 28; ((with_reducible refine (HT2.out _ _ HR6.out.Z.T HR6.out.Z.B).mono ?_); rintro e w5 ⟨rfl, hT, hB, hK⟩; have HR7 := Lib.hid (HR6.out.call hT hB hK); clear hT hB hK))
      | (go_at_call 21; ((with_reducible refine (HL2.out _).mono ?_); rintro e w6 ⟨rfl, hB⟩; have HR8 := Lib.hid (HR7.out.below hB); clear hB; have k1 : w6.cell? ⟨w1.heap.size, 1, none⟩ = some (.string ⟨#[]⟩) := (blk_cell HR8.out.K 1).trans rfl; have y1 := blk_frozen HR8.out.K 1; have HR9 := Lib.hid (HR8.out.set 1 (.string (St n2)) (St n1) (St n2) _ rfl)))
      | (go_at_call 27; ((with_reducible refine (HB2.out _ _ HR9.out.Z.T HR9.out.Z.B).mono ?_); rintro e w7 ⟨rfl, hT, hB, hK⟩; have HR10 := Lib.hid (HR9.out.call hT hB hK); clear hT hB hK)))
    go_loopw [7] (fun _ wr => ∃ (r : List Int) (ps : List Pm) (v : Value) (f : Nat), Hid (RS w wr w.heap.size (w.heap.size + 1) g w1.heap.size l r (St n1) (St n2) v) ∧ Hid (PO wr w.heap.size v ps) ∧ Hid (r.length + ps.length ≤ 4294967296) ∧ Hid (∀ p ∈ ps, (Bytes p.1 ∧ p.1.length ≤ 4294967296) ∧ (Bytes p.2 ∧ p.2.length ≤ 4294967296)) ∧ Hid (r.length < f) ∧ Hid (R = readT f r ps)) (fun _ wr => s.size - atT wr g)
    case atStart => exact ⟨r0, [], .slice none 0 0, f0, HR10, Lib.hid (PO.nil _ _), Lib.hid (by simpa using hrest), Lib.hid (by intro p hp; cases hp), Lib.hid hrf, Lib.hid hRR⟩
    case round =>
      obtain ⟨r, ps, v, f, HR, HO, HPN, HPO, Hf, HQ⟩ := hrel
      clear HR0 HR1 HR2 HR3 HR4 HR5 HR6 HR7 HR8 HR9 HR10 k0 y0 k1 y1 hRR hrest hrf hrb2 HB1 HB2 HT1 HT2 HL1 HL2 HSL
      have hrb := (HR.out.Z.T.bytes HBYL.out).1
      obtain ⟨i, hi, hdr, hX⟩ := HR.out.Z.at_place
      rw [← HS.out] at hX
      have HX := Lib.hid hX
      have p1 : wr.cell? ⟨g, 1, none⟩ = some (.int .i64 (i : Int)) := (blk_cell HX.out 1).trans rfl
      clear hX
      have hrlen : r.length = l.length - i := by rw [← hdr, List.length_drop]
      obtain ⟨f, rfl⟩ : ∃ h, f = h + 1 := ⟨f - 1, by have := Hf.out; omega⟩
      have hq := HQ.out
      rw [readT] at hq
      clear HQ
      by_cases g1 : r = []
      · rw [if_pos g1] at hq
        have hdec : decide (i < s.size) = false := decide_eq_false (by have := HSZ.out; rw [g1] at hrlen; simp only [List.length_nil] at hrlen; omega)
        clear g1 hrlen hdr hi hrb
        obtain ⟨A, cA, rfl, hcA, hPR⟩ := HO.out.reads
        have HRC := Lib.hid (fun (W : World) (hW : Below wr.heap.size wr W) => rright_any (w := W) ⟨hn1b, hn2b, hn1l, hn2l, by have := HPN.out; omega, fun p hp => (HPO.out p hp).1, fun p hp => (HPO.out p hp).2⟩ (hPR.below hW) hcA)
        have k0 : wr.cell? ⟨w1.heap.size, 0, none⟩ = some (.string (St n1)) := (blk_cell HR.out.K 0).trans rfl
        have k1 : wr.cell? ⟨w1.heap.size, 1, none⟩ = some (.string (St n2)) := (blk_cell HR.out.K 1).trans rfl
        have k2 : wr.cell? ⟨w1.heap.size, 2, none⟩ = some (.slice A ps.length cA) := (blk_cell HR.out.K 2).trans rfl
        by_cases hrt : rightB n1 n2 ps = true
        · rw [hrt] at HRC
          have HVV : Hid (V = some (n1, n2, ps)) := Lib.hid (by rw [HVd.out, hq]; simp only; rw [if_pos hrt])
          clear hrt hq hcA hPR hn1b hn2b hn1l hn2l
          go_wp2_with (first
            | (go_at_call 18; ((with_reducible refine (HRC.out _ (Below.refl _ _)).mono ?_); rintro e w8 ⟨rfl, hB⟩; have HR8 := Lib.hid (HR.out.below hB); have HO8 := Lib.hid (HO.out.below hB); clear hB k0 k1 k2; have c0 : w8.cell? ⟨w.heap.size, 0, none⟩ = some (.string ⟨#[]⟩) := (blk_cell HR8.out.Z.F 0).trans rfl; have d0 : w8.cell? ⟨w.heap.size + 1, 0, none⟩ = some (.string ⟨#[]⟩) := (blk_cell HR8.out.Z.D 0).trans rfl; have z0 := blk_frozen HR8.out.Z.F 0; have c1 : w8.cell? ⟨w.heap.size, 1, none⟩ = some (.string ⟨#[]⟩) := (blk_cell HR8.out.Z.F 1).trans rfl; have d1 : w8.cell? ⟨w.heap.size + 1, 1, none⟩ = some (.string ⟨#[]⟩) := (blk_cell HR8.out.Z.D 1).trans rfl; have z1 := blk_frozen HR8.out.Z.F 1; have c2 : w8.cell? ⟨w.heap.size, 2, none⟩ = some (.slice none 0 0) := (blk_cell HR8.out.Z.F 2).trans rfl; have d2 : w8.cell? ⟨w.heap.size + 1, 2, none⟩ = some (.slice none 0 0) := (blk_cell HR8.out.Z.D 2).trans rfl; have z2 := blk_frozen HR8.out.Z.F 2; have k0 : w8.cell? ⟨w1.heap.size, 0, none⟩ = some (.string (St n1)) := (blk_cell HR8.out.K 0).trans rfl; have k1 : w8.cell? ⟨w1.heap.size, 1, none⟩ = some (.string (St n2)) := (blk_cell HR8.out.K 1).trans rfl; have k2 : w8.cell? ⟨w1.heap.size, 2, none⟩ = some (.slice A ps.length cA) := (blk_cell HR8.out.K 2).trans rfl)))
          have HF9 := blk_set (blk_set (blk_set HR8.out.Z.F 0 (.string (St n1))) 1 (.string (St n2))) 2 (.slice A ps.length cA)
          have hne := own_ne HO8.out HR8.out.Z.F (by decide)
          refine bodyPost_ret (results_ct rfl _ _ _ _ _ _ _ rfl HF9 Try.underlying25 rfl (by kernel_rfl)) rfl ?_
          rw [HVV.out]
          exact ⟨_, rfl, own_setCell (own_setCell (own_setCell HO8.out hne _) hne _) hne _, below_set (below_set (below_set HR8.out.Z.B (Nat.le_refl _)) (Nat.le_refl _)) (Nat.le_refl _)⟩
        · have hrt' : rightB n1 n2 ps = false := by simpa using hrt
          rw [hrt'] at HRC
          have HV : Hid (V = none) := Lib.hid (by rw [HVd.out, hq]; simp only; rw [if_neg hrt])
          clear hrt hrt' hq hcA hPR hn1b hn2b hn1l hn2l
          go_wp2_with (first
            | (go_at_call 18; ((with_reducible refine (HRC.out _ (Below.refl _ _)).mono ?_); rintro e w8 ⟨rfl, hB⟩; have HR8 := Lib.hid (HR.out.below hB); have HO8 := Lib.hid (HO.out.below hB); clear hB k0 k1 k2; have c0 : w8.cell? ⟨w.heap.size, 0, none⟩ = some (.string ⟨#[]⟩) := (blk_cell HR8.out.Z.F 0).trans rfl; have d0 : w8.cell? ⟨w.heap.size + 1, 0, none⟩ = some (.string ⟨#[]⟩) := (blk_cell HR8.out.Z.D 0).trans rfl; have z0 := blk_frozen HR8.out.Z.F 0; have c1 : w8.cell? ⟨w.heap.size, 1, none⟩ = some (.string ⟨#[]⟩) := (blk_cell HR8.out.Z.F 1).trans rfl; have d1 : w8.cell? ⟨w.heap.size + 1, 1, none⟩ = some (.string ⟨#[]⟩) := (blk_cell HR8.out.Z.D 1).trans rfl; have z1 := blk_frozen HR8.out.Z.F 1; have c2 : w8.cell? ⟨w.heap.size, 2, none⟩ = some (.slice none 0 0) := (blk_cell HR8.out.Z.F 2).trans rfl; have d2 : w8.cell? ⟨w.heap.size + 1, 2, none⟩ = some (.slice none 0 0) := (blk_cell HR8.out.Z.D 2).trans rfl; have z2 := blk_frozen HR8.out.Z.F 2)))
          have HF9 := blk_set (blk_set (blk_set HR8.out.Z.F 0 (.string ⟨#[]⟩)) 1 (.string ⟨#[]⟩)) 2 (.slice none 0 0)
          refine bodyPost_ret (results_ct rfl _ _ _ _ _ _ _ rfl HF9 Try.underlying25 rfl (by kernel_rfl)) rfl ?_
          rw [HV.out]
          exact ⟨rfl, below_set (below_set (below_set HR8.out.Z.B (Nat.le_refl _)) (Nat.le_refl _)) (Nat.le_refl _)⟩
      · rw [if_neg g1] at hq
        have hlt : i < s.size := by
          have := HSZ.out
          have := List.length_pos_iff.2 g1
          omega
        have HI59 := Lib.hid (HIS.out 59 r)
        rcases hc : cutP 59 r with _ | q
        · rw [hc] at hq
          simp only at hq
          rw [show hasP 59 r = false by unfold hasP; rw [hc]; rfl, hc, Option.getD_none] at HI59
          have HV : Hid (V = none) := Lib.hid (by rw [HVd.out, hq])
          clear hq g1 hrlen hdr hi hrb hc HIS
          go_wp2_with (first
            | (go_at_call 29; ((with_reducible refine (HI59.out _ _ HR.out.Z.T HR.out.Z.B).mono ?_); rintro e w2 ⟨rfl, hT, hB, hK⟩; have HR2 := Lib.hid (HR.out.call hT hB hK); clear hT hB hK; have c0 : w2.cell? ⟨w.heap.size, 0, none⟩ = some (.string ⟨#[]⟩) := (blk_cell HR2.out.Z.F 0).trans rfl; have d0 : w2.cell? ⟨w.heap.size + 1, 0, none⟩ = some (.string ⟨#[]⟩) := (blk_cell HR2.out.Z.D 0).trans rfl; have z0 := blk_frozen HR2.out.Z.F 0; have c1 : w2.cell? ⟨w.heap.size, 1, none⟩ = some (.string ⟨#[]⟩) := (blk_cell HR2.out.Z.F 1).trans rfl; have d1 : w2.cell? ⟨w.heap.size + 1, 1, none⟩ = some (.string ⟨#[]⟩) := (blk_cell HR2.out.Z.D 1).trans rfl; have z1 := blk_frozen HR2.out.Z.F 1; have c2 : w2.cell? ⟨w.heap.size, 2, none⟩ = some (.slice none 0 0) := (blk_cell HR2.out.Z.F 2).trans rfl; have d2 : w2.cell? ⟨w.heap.size + 1, 2, none⟩ = some (.slice none 0 0) := (blk_cell HR2.out.Z.D 2).trans rfl; have z2 := blk_frozen HR2.out.Z.F 2)))
          have HF9 := blk_set (blk_set (blk_set HR2.out.Z.F 0 (.string ⟨#[]⟩)) 1 (.string ⟨#[]⟩)) 2 (.slice none 0 0)
          refine bodyPost_ret (results_ct rfl _ _ _ _ _ _ _ rfl HF9 Try.underlying25 rfl (by kernel_rfl)) rfl ?_
          rw [HV.out]
          exact ⟨rfl, below_set (below_set (below_set HR2.out.Z.B (Nat.le_refl _)) (Nat.le_refl _)) (Nat.le_refl _)⟩
        · rw [hc] at hq
          simp only at hq
          rw [show hasP 59 r = true by unfold hasP; rw [hc]; rfl, hc, Option.getD_some] at HI59
          have hqr := cutP_of hc
          have hqb : Bytes q := fun x hx => hrb x (by rw [hqr]; exact List.mem_cons_of_mem _ hx)
          have hql : q.length + 1 = r.length := by rw [hqr]; rfl
          have hbb := blankL_bytes hqb
          have hbl := blankL_len q
          have HBQ := Lib.hid (HBLK.out q)
          have HRL := Lib.hid hrlen
          have HQL := Lib.hid hql
          have HII := Lib.hid hi
          clear hc hqr hrb g1 hdr
          generalize blankL q = q1 at *
          by_cases g2 : q1 = []
          · rw [if_pos g2] at hq
            subst g2
            clear hrlen hql hi hqb hbb hbl
            have HKO : Hid (KOk n1 n2 ps) := Lib.hid ⟨hn1b, hn2b, hn1l, hn2l, by have := HPN.out; omega, fun p hp => (HPO.out p hp).1, fun p hp => (HPO.out p hp).2⟩
            by_cases hrt : rightB n1 n2 ps = true
            · have HVV : Hid (V = some (n1, n2, ps)) := Lib.hid (by rw [HVd.out, hq]; simp only; rw [if_pos hrt])
              have HRT := Lib.hid hrt
              clear hrt hq hn1b hn2b hn1l hn2l
              go_wp2_with (first
                | (go_at_call 29; ((with_reducible refine (HI59.out _ _ HR.out.Z.T HR.out.Z.B).mono ?_); rintro e w2 ⟨rfl, hT, hB, hK⟩; have HR2 := Lib.hid (HR.out.call hT hB hK); have HO2 := Lib.hid (HR.out.own HO.out hK); clear hT hB hK))
                | (go_at_call 27; ((with_reducible refine (HBQ.out _ _ HR2.out.Z.T HR2.out.Z.B).mono ?_); rintro e w3 ⟨rfl, hT, hB, hK⟩; have HR3 := Lib.hid (HR2.out.call hT hB hK); have HO3 := Lib.hid (HR2.out.own HO2.out hK); clear hT hB hK; obtain ⟨j, hj, hdj, hY⟩ := HR3.out.Z.at_place; rw [← HS.out] at hY; have m1 : w3.cell? ⟨g, 1, none⟩ = some (.int .i64 (j : Int)) := (blk_cell hY 1).trans rfl; clear hY; have hje : j = s.size := (by have := HSZ.out; have := congrArg List.length hdj; rw [List.length_drop] at this; simp only [List.length_nil] at this; omega); rw [hje] at m1; clear hj hdj; obtain ⟨A, cA, rfl, hcA, hPR⟩ := HO3.out.reads; have HRC := Lib.hid (fun (W : World) (hW : Below w3.heap.size w3 W) => rright_any (w := W) HKO.out (hPR.below hW) hcA); rw [HRT.out] at HRC; clear hcA hPR; have k0 : w3.cell? ⟨w1.heap.size, 0, none⟩ = some (.string (St n1)) := (blk_cell HR3.out.K 0).trans rfl; have k1 : w3.cell? ⟨w1.heap.size, 1, none⟩ = some (.string (St n2)) := (blk_cell HR3.out.K 1).trans rfl; have k2 : w3.cell? ⟨w1.heap.size, 2, none⟩ = some (.slice A ps.length cA) := (blk_cell HR3.out.K 2).trans rfl))
                | (go_at_call 18; ((with_reducible refine (HRC.out _ (Below.refl _ _)).mono ?_); rintro e w8 ⟨rfl, hB⟩; have HR8 := Lib.hid (HR3.out.below hB); have HO8 := Lib.hid (HO3.out.below hB); clear hB k0 k1 k2; have c0 : w8.cell? ⟨w.heap.size, 0, none⟩ = some (.string ⟨#[]⟩) := (blk_cell HR8.out.Z.F 0).trans rfl; have d0 : w8.cell? ⟨w.heap.size + 1, 0, none⟩ = some (.string ⟨#[]⟩) := (blk_cell HR8.out.Z.D 0).trans rfl; have z0 := blk_frozen HR8.out.Z.F 0; have c1 : w8.cell? ⟨w.heap.size, 1, none⟩ = some (.string ⟨#[]⟩) := (blk_cell HR8.out.Z.F 1).trans rfl; have d1 : w8.cell? ⟨w.heap.size + 1, 1, none⟩ = some (.string ⟨#[]⟩) := (blk_cell HR8.out.Z.D 1).trans rfl; have z1 := blk_frozen HR8.out.Z.F 1; have c2 : w8.cell? ⟨w.heap.size, 2, none⟩ = some (.slice none 0 0) := (blk_cell HR8.out.Z.F 2).trans rfl; have d2 : w8.cell? ⟨w.heap.size + 1, 2, none⟩ = some (.slice none 0 0) := (blk_cell HR8.out.Z.D 2).trans rfl; have z2 := blk_frozen HR8.out.Z.F 2; have k0 : w8.cell? ⟨w1.heap.size, 0, none⟩ = some (.string (St n1)) := (blk_cell HR8.out.K 0).trans rfl; have k1 : w8.cell? ⟨w1.heap.size, 1, none⟩ = some (.string (St n2)) := (blk_cell HR8.out.K 1).trans rfl; have k2 : w8.cell? ⟨w1.heap.size, 2, none⟩ = some (.slice A ps.length cA) := (blk_cell HR8.out.K 2).trans rfl)))
              have HF9 := blk_set (blk_set (blk_set HR8.out.Z.F 0 (.string (St n1))) 1 (.string (St n2))) 2 (.slice A ps.length cA)
              have hne := own_ne HO8.out HR8.out.Z.F (by decide)
              refine bodyPost_ret (results_ct rfl _ _ _ _ _ _ _ rfl HF9 Try.underlying25 rfl (by kernel_rfl)) rfl ?_
              rw [HVV.out]
              exact ⟨_, rfl, own_setCell (own_setCell (own_setCell HO8.out hne _) hne _) hne _, below_set (below_set (below_set HR8.out.Z.B (Nat.le_refl _)) (Nat.le_refl _)) (Nat.le_refl _)⟩
            · have HRT : Hid (rightB n1 n2 ps = false) := Lib.hid (by simpa using hrt)
              have HV : Hid (V = none) := Lib.hid (by rw [HVd.out, hq]; simp only; rw [if_neg hrt])
              clear hrt hq hn1b hn2b hn1l hn2l
              go_wp2_with (first
                | (go_at_call 29; ((with_reducible refine (HI59.out _ _ HR.out.Z.T HR.out.Z.B).mono ?_); rintro e w2 ⟨rfl, hT, hB, hK⟩; have HR2 := Lib.hid (HR.out.call hT hB hK); have HO2 := Lib.hid (HR.out.own HO.out hK); clear hT hB hK))
                | (go_at_call 27; ((with_reducible refine (HBQ.out _ _ HR2.out.Z.T HR2.out.Z.B).mono ?_); rintro e w3 ⟨rfl, hT, hB, hK⟩; have HR3 := Lib.hid (HR2.out.call hT hB hK); have HO3 := Lib.hid (HR2.out.own HO2.out hK); clear hT hB hK; obtain ⟨j, hj, hdj, hY⟩ := HR3.out.Z.at_place; rw [← HS.out] at hY; have m1 : w3.cell? ⟨g, 1, none⟩ = some (.int .i64 (j : Int)) := (blk_cell hY 1).trans rfl; clear hY; have hje : j = s.size := (by have := HSZ.out; have := congrArg List.length hdj; rw [List.length_drop] at this; simp only [List.length_nil] at this; omega); rw [hje] at m1; clear hj hdj; obtain ⟨A, cA, rfl, hcA, hPR⟩ := HO3.out.reads; have HRC := Lib.hid (fun (W : World) (hW : Below w3.heap.size w3 W) => rright_any (w := W) HKO.out (hPR.below hW) hcA); rw [HRT.out] at HRC; clear hcA hPR; have k0 : w3.cell? ⟨w1.heap.size, 0, none⟩ = some (.string (St n1)) := (blk_cell HR3.out.K 0).trans rfl; have k1 : w3.cell? ⟨w1.heap.size, 1, none⟩ = some (.string (St n2)) := (blk_cell HR3.out.K 1).trans rfl; have k2 : w3.cell? ⟨w1.heap.size, 2, none⟩ = some (.slice A ps.length cA) := (blk_cell HR3.out.K 2).trans rfl))
                | (go_at_call 18; ((with_reducible refine (HRC.out _ (Below.refl _ _)).mono ?_); rintro e w8 ⟨rfl, hB⟩; have HR8 := Lib.hid (HR3.out.below hB); have HO8 := Lib.hid (HO3.out.below hB); clear hB k0 k1 k2; have c0 : w8.cell? ⟨w.heap.size, 0, none⟩ = some (.string ⟨#[]⟩) := (blk_cell HR8.out.Z.F 0).trans rfl; have d0 : w8.cell? ⟨w.heap.size + 1, 0, none⟩ = some (.string ⟨#[]⟩) := (blk_cell HR8.out.Z.D 0).trans rfl; have z0 := blk_frozen HR8.out.Z.F 0; have c1 : w8.cell? ⟨w.heap.size, 1, none⟩ = some (.string ⟨#[]⟩) := (blk_cell HR8.out.Z.F 1).trans rfl; have d1 : w8.cell? ⟨w.heap.size + 1, 1, none⟩ = some (.string ⟨#[]⟩) := (blk_cell HR8.out.Z.D 1).trans rfl; have z1 := blk_frozen HR8.out.Z.F 1; have c2 : w8.cell? ⟨w.heap.size, 2, none⟩ = some (.slice none 0 0) := (blk_cell HR8.out.Z.F 2).trans rfl; have d2 : w8.cell? ⟨w.heap.size + 1, 2, none⟩ = some (.slice none 0 0) := (blk_cell HR8.out.Z.D 2).trans rfl; have z2 := blk_frozen HR8.out.Z.F 2)))
              have HF9 := blk_set (blk_set (blk_set HR8.out.Z.F 0 (.string ⟨#[]⟩)) 1 (.string ⟨#[]⟩)) 2 (.slice none 0 0)
              refine bodyPost_ret (results_ct rfl _ _ _ _ _ _ _ rfl HF9 Try.underlying25 rfl (by kernel_rfl)) rfl ?_
              rw [HV.out]
              exact ⟨rfl, below_set (below_set (below_set HR8.out.Z.B (Nat.le_refl _)) (Nat.le_refl _)) (Nat.le_refl _)⟩
          · rw [if_neg g2] at hq
            have H2P := Lib.hid (List.length_pos_iff.2 g2)
            have HTQ := Lib.hid (HTOK.out q1)
            have HI61 := Lib.hid (HIS.out 61 (restL q1))
            have HLQ := Lib.hid (rlower_any (tokL_bytes hbb) (Nat.le_trans (tokL_len q1) (by have := HLL.out; omega)))
            have hpar := fun q2 => @paramL_val q1 q2
            rcases hc2 : cutP 61 (restL q1) with _ | q2
            · rw [hc2] at hq
              simp only at hq
              rw [show hasP 61 (restL q1) = false by unfold hasP; rw [hc2]; rfl, hc2, Option.getD_none] at HI61
              have HV : Hid (V = none) := Lib.hid (by rw [HVd.out, hq])
              clear hq hpar hrlen hql hi hqb hbb hbl hc2
              generalize St (tokL q1) = sq at *
              go_wp2_with (first
                | (go_at_call 29; ((with_reducible refine (HI59.out _ _ HR.out.Z.T HR.out.Z.B).mono ?_); rintro e w2 ⟨rfl, hT, hB, hK⟩; have HR2 := Lib.hid (HR.out.call hT hB hK); clear hT hB hK))
                | (go_at_call 27; ((with_reducible refine (HBQ.out _ _ HR2.out.Z.T HR2.out.Z.B).mono ?_); rintro e w3 ⟨rfl, hT, hB, hK⟩; have HR3 := Lib.hid (HR2.out.call hT hB hK); clear hT hB hK; obtain ⟨j, hj, hdj, hY⟩ := HR3.out.Z.at_place; rw [← HS.out] at hY; have m1 : w3.cell? ⟨g, 1, none⟩ = some (.int .i64 (j : Int)) := (blk_cell hY 1).trans rfl; clear hY; have hje : decide (j = s.size) = false := decide_eq_false (by have := HSZ.out; have := congrArg List.length hdj; rw [List.length_drop] at this; have := H2P.out; omega); have hje2 : (j = s.size) = False := eq_false (by simpa using hje); have hje3 : ((j : Int) == (s.size : Int)) = false := (by have h0 : j ≠ s.size := (by simpa using hje); simp; omega); clear hj hdj))
                | (go_at_call 28; ((with_reducible refine (HTQ.out _ _ HR3.out.Z.T HR3.out.Z.B).mono ?_); rintro e w4 ⟨rfl, hT, hB, hK⟩; have HR4 := Lib.hid (HR3.out.call hT hB hK); clear hT hB hK))
                | (go_at_call 21; ((with_reducible refine (HLQ.out _).mono ?_); rintro e w5 ⟨rfl, hB⟩; have HR5 := Lib.hid (HR4.out.below hB); have HB5 := Lib.hid hB; clear hB))
                | (go_at_call 29; ((with_reducible refine (HI61.out _ _ HR5.out.Z.T HR5.out.Z.B).mono ?_); rintro e w6 ⟨rfl, hT, hB, hK⟩; have HR6 := Lib.hid (HR5.out.call hT hB hK); clear hT hB hK; have c0 : w6.cell? ⟨w.heap.size, 0, none⟩ = some (.string ⟨#[]⟩) := (blk_cell HR6.out.Z.F 0).trans rfl; have d0 : w6.cell? ⟨w.heap.size + 1, 0, none⟩ = some (.string ⟨#[]⟩) := (blk_cell HR6.out.Z.D 0).trans rfl; have z0 := blk_frozen HR6.out.Z.F 0; have c1 : w6.cell? ⟨w.heap.size, 1, none⟩ = some (.string ⟨#[]⟩) := (blk_cell HR6.out.Z.F 1).trans rfl; have d1 : w6.cell? ⟨w.heap.size + 1, 1, none⟩ = some (.string ⟨#[]⟩) := (blk_cell HR6.out.Z.D 1).trans rfl; have z1 := blk_frozen HR6.out.Z.F 1; have c2 : w6.cell? ⟨w.heap.size, 2, none⟩ = some (.slice none 0 0) := (blk_cell HR6.out.Z.F 2).trans rfl; have d2 : w6.cell? ⟨w.heap.size + 1, 2, none⟩ = some (.slice none 0 0) := (blk_cell HR6.out.Z.D 2).trans rfl; have z2 := blk_frozen HR6.out.Z.F 2)))
              have HF9 := blk_set (blk_set (blk_set HR6.out.Z.F 0 (.string ⟨#[]⟩)) 1 (.string ⟨#[]⟩)) 2 (.slice none 0 0)
              refine bodyPost_ret (results_ct rfl _ _ _ _ _ _ _ rfl HF9 Try.underlying25 rfl (by kernel_rfl)) rfl ?_
              rw [HV.out]
              exact ⟨rfl, below_set (below_set (below_set HR6.out.Z.B (Nat.le_refl _)) (Nat.le_refl _)) (Nat.le_refl _)⟩
            · rw [hc2] at hq
              simp only at hq
              rw [show hasP 61 (restL q1) = true by unfold hasP; rw [hc2]; rfl, hc2, Option.getD_some] at HI61
              have hpp := hpar q2 hc2
              have hx := paramL_ok hbb
              rw [hpp] at hx
              simp only at hx
              have HVQ := Lib.hid (HVAL.out q2)
              rw [show (valT' q2) = valT q2 from rfl] at hq
              clear hpar hpp hc2 hqb hbb
              generalize St (tokL q1) = sq at *
              generalize lowL (tokL q1) = pn at *
              generalize valT q2 = X at *
              obtain ⟨pv, pr, pok⟩ := X
              simp only at hq hx HVQ
              obtain ⟨hx1, hx2, hx3, hx4, hx5, hx6⟩ := hx
              rcases pok with _ | _
              · have HV : Hid (V = none) := Lib.hid (by rw [HVd.out, hq]; rfl)
                clear hq hrlen hql hi hbl hx1 hx2 hx3 hx4 hx5 hx6
                go_wp2_with (first
                  | (go_at_call 29; ((with_reducible refine (HI59.out _ _ HR.out.Z.T HR.out.Z.B).mono ?_); rintro e w2 ⟨rfl, hT, hB, hK⟩; have HR2 := Lib.hid (HR.out.call hT hB hK); clear hT hB hK))
                  | (go_at_call 27; ((with_reducible refine (HBQ.out _ _ HR2.out.Z.T HR2.out.Z.B).mono ?_); rintro e w3 ⟨rfl, hT, hB, hK⟩; have HR3 := Lib.hid (HR2.out.call hT hB hK); clear hT hB hK; obtain ⟨j, hj, hdj, hY⟩ := HR3.out.Z.at_place; rw [← HS.out] at hY; have m1 : w3.cell? ⟨g, 1, none⟩ = some (.int .i64 (j : Int)) := (blk_cell hY 1).trans rfl; clear hY; have hje : decide (j = s.size) = false := decide_eq_false (by have := HSZ.out; have := congrArg List.length hdj; rw [List.length_drop] at this; have := H2P.out; omega); have hje2 : (j = s.size) = False := eq_false (by simpa using hje); have hje3 : ((j : Int) == (s.size : Int)) = false := (by have h0 : j ≠ s.size := (by simpa using hje); simp; omega); clear hj hdj))
                  | (go_at_call 28; ((with_reducible refine (HTQ.out _ _ HR3.out.Z.T HR3.out.Z.B).mono ?_); rintro e w4 ⟨rfl, hT, hB, hK⟩; have HR4 := Lib.hid (HR3.out.call hT hB hK); clear hT hB hK))
                  | (go_at_call 21; ((with_reducible refine (HLQ.out _).mono ?_); rintro e w5 ⟨rfl, hB⟩; have HR5 := Lib.hid (HR4.out.below hB); have HB5 := Lib.hid hB; clear hB))
                  | (go_at_call 29; ((with_reducible refine (HI61.out _ _ HR5.out.Z.T HR5.out.Z.B).mono ?_); rintro e w6 ⟨rfl, hT, hB, hK⟩; have HR6 := Lib.hid (HR5.out.call hT hB hK); clear hT hB hK))
                  | (go_at_call 30; ((with_reducible refine (HVQ.out _ _ HR6.out.Z.T HR6.out.Z.B).mono ?_); rintro e w7 ⟨rfl, hT, hB, hK⟩; have HR7 := Lib.hid (HR6.out.call hT hB hK); clear hT hB hK; have c0 : w7.cell? ⟨w.heap.size, 0, none⟩ = some (.string ⟨#[]⟩) := (blk_cell HR7.out.Z.F 0).trans rfl; have d0 : w7.cell? ⟨w.heap.size + 1, 0, none⟩ = some (.string ⟨#[]⟩) := (blk_cell HR7.out.Z.D 0).trans rfl; have z0 := blk_frozen HR7.out.Z.F 0; have c1 : w7.cell? ⟨w.heap.size, 1, none⟩ = some (.string ⟨#[]⟩) := (blk_cell HR7.out.Z.F 1).trans rfl; have d1 : w7.cell? ⟨w.heap.size + 1, 1, none⟩ = some (.string ⟨#[]⟩) := (blk_cell HR7.out.Z.D 1).trans rfl; have z1 := blk_frozen HR7.out.Z.F 1; have c2 : w7.cell? ⟨w.heap.size, 2, none⟩ = some (.slice none 0 0) := (blk_cell HR7.out.Z.F 2).trans rfl; have d2 : w7.cell? ⟨w.heap.size + 1, 2, none⟩ = some (.slice none 0 0) := (blk_cell HR7.out.Z.D 2).trans rfl; have z2 := blk_frozen HR7.out.Z.F 2)))
                have HF9 := blk_set (blk_set (blk_set HR7.out.Z.F 0 (.string ⟨#[]⟩)) 1 (.string ⟨#[]⟩)) 2 (.slice none 0 0)
                refine bodyPost_ret (results_ct rfl _ _ _ _ _ _ _ rfl HF9 Try.underlying25 rfl (by kernel_rfl)) rfl ?_
                rw [HV.out]
                exact ⟨rfl, below_set (below_set (below_set HR7.out.Z.B (Nat.le_refl _)) (Nat.le_refl _)) (Nat.le_refl _)⟩
              · rw [if_pos rfl] at hq
                have HBR := Lib.hid (HBLK.out pr)
                have hpl := blankL_len pr
                generalize blankL pr = r1 at *
                have HPN2 : Hid (r1.length + (ps ++ [(pn, pv)]).length ≤ 4294967296) := Lib.hid (by have := HPN.out; rw [List.length_append, List.length_singleton]; omega)
                have HPO2 : Hid (∀ p ∈ ps ++ [(pn, pv)], (Bytes p.1 ∧ p.1.length ≤ 4294967296) ∧ (Bytes p.2 ∧ p.2.length ≤ 4294967296)) := Lib.hid (fun p hp => by
                  have := HPN.out
                  rcases List.mem_append.1 hp with hp | hp
                  · exact HPO.out p hp
                  · rw [List.mem_singleton.1 hp]; exact ⟨⟨hx1, by simp only; omega⟩, hx2, by simp only; omega⟩)
                have Hf2 : Hid (r1.length < f) := Lib.hid (by have := Hf.out; omega)
                have HL3 : Hid ((ps.length + 1) * 32 ≤ 140737488355328) := Lib.hid (by have := HPN.out; omega)
                have HSH : Hid (r1.length < r.length) := Lib.hid (by omega)
                have HQ2 := Lib.hid hq
                clear hq hrlen hql hi hbl hx1 hx2 hx3 hx4 hx5 hx6 hpl
                go_wp2_with (first
                  | (go_at_call 29; ((with_reducible refine (HI59.out _ _ HR.out.Z.T HR.out.Z.B).mono ?_); rintro e w2 ⟨rfl, hT, hB, hK⟩; have HR2 := Lib.hid (HR.out.call hT hB hK); have HO2 := Lib.hid (HR.out.own HO.out hK); clear hT hB hK))
                  | (go_at_call 27; ((with_reducible refine (HBQ.out _ _ HR2.out.Z.T HR2.out.Z.B).mono ?_); rintro e w3 ⟨rfl, hT, hB, hK⟩; have HR3 := Lib.hid (HR2.out.call hT hB hK); have HO3 := Lib.hid (HR2.out.own HO2.out hK); clear hT hB hK; obtain ⟨j, hj, hdj, hY⟩ := HR3.out.Z.at_place; rw [← HS.out] at hY; have m1 : w3.cell? ⟨g, 1, none⟩ = some (.int .i64 (j : Int)) := (blk_cell hY 1).trans rfl; clear hY; have hje : decide (j = s.size) = false := decide_eq_false (by have := HSZ.out; have := congrArg List.length hdj; rw [List.length_drop] at this; have := H2P.out; omega); have hje2 : (j = s.size) = False := eq_false (by simpa using hje); have hje3 : ((j : Int) == (s.size : Int)) = false := (by have h0 : j ≠ s.size := (by simpa using hje); simp; omega); clear hj hdj))
                  | (go_at_call 28; ((with_reducible refine (HTQ.out _ _ HR3.out.Z.T HR3.out.Z.B).mono ?_); rintro e w4 ⟨rfl, hT, hB, hK⟩; have HR4 := Lib.hid (HR3.out.call hT hB hK); have HO4 := Lib.hid (HR3.out.own HO3.out hK); clear hT hB hK))
                  | (go_at_call 21; ((with_reducible refine (HLQ.out _).mono ?_); rintro e w5 ⟨rfl, hB⟩; have HR5 := Lib.hid (HR4.out.below hB); have HO5 := Lib.hid (HO4.out.below hB); have HB5 := Lib.hid hB; clear hB))
                  | (go_at_call 29; ((with_reducible refine (HI61.out _ _ HR5.out.Z.T HR5.out.Z.B).mono ?_); rintro e w6 ⟨rfl, hT, hB, hK⟩; have HR6 := Lib.hid (HR5.out.call hT hB hK); have HO6 := Lib.hid (HR5.out.own HO5.out hK); clear hT hB hK))
                  | (go_at_call 30; ((with_reducible refine (HVQ.out _ _ HR6.out.Z.T HR6.out.Z.B).mono ?_); rintro e w7 ⟨rfl, hT, hB, hK⟩; have HR7 := Lib.hid (HR6.out.call hT hB hK); have HO7 := Lib.hid (HR6.out.own HO6.out hK); clear hT hB hK; have k2 : w7.cell? ⟨w1.heap.size, 2, none⟩ = some v := (blk_cell HR7.out.K 2).trans rfl))
                  | (at_builtin; refine print_append_cells (w0 := w) w.heap.size rfl (.tmp 66) (.tmp 70) 23 42 (.agg #[.string ⟨#[]⟩, .string ⟨#[]⟩]) 2 32 rfl Try.underlying23 infoParam rfl (by decide) (by decide) v ps.length (ps.flatMap pcells) (pcells (pn, pv)) rfl rfl rfl (pcells_one _) HO7.out HR7.out.Z.B HR7.out.Z.B.size HL3.out ?_; intro v1 w8 hO2 hB2 hg2 _; have HO8 := Lib.hid (PO.snoc hO2); have HR8 := Lib.hid (HR7.out.grown HO7.out hg2 hB2); have m2 : w8.cell? ⟨w1.heap.size, 2, none⟩ = some v := (blk_cell HR8.out.K 2).trans rfl; have y2 := blk_frozen HR8.out.K 2; obtain ⟨A1, cA1, rfl, hcA1, hPR1⟩ := HO8.out.reads; have HR9 := Lib.hid (HR8.out.set 2 (.slice A1 (ps ++ [(pn, pv)]).length cA1) _ _ (.slice A1 (ps ++ [(pn, pv)]).length cA1) rfl); have HO9 : Hid (PO _ w.heap.size (.slice A1 (ps ++ [(pn, pv)]).length cA1) (ps ++ [(pn, pv)])) := Lib.hid (own_setCell HO8.out (p := ⟨w1.heap.size, 2, none⟩) (own_ne HO8.out HR8.out.K (by decide)) (.slice A1 (ps ++ [(pn, pv)]).length cA1)); rw [List.length_append, List.length_singleton] at HR9 HO9; clear hO2 hB2 hg2 hPR1 hcA1)
                  | (go_at_call 27; ((with_reducible refine (HBR.out _ _ HR9.out.Z.T HR9.out.Z.B).mono ?_); rintro e w10 ⟨rfl, hT, hB, hK⟩; have HR10 := Lib.hid (HR9.out.call hT hB hK); have HO10 := Lib.hid (HR9.out.own HO9.out hK); clear hT hB hK)))
                go_roundw
                case rel => exact ⟨r1, ps ++ [(pn, pv)], .slice A1 (ps.length + 1) cA1, f, HR10, HO10, HPN2, HPO2, Hf2, HQ2⟩
                case measure =>
                  obtain ⟨j, hj, hdj, hY⟩ := HR10.out.Z.at_place
                  rw [atT_eq HX.out, atT_eq hY]
                  have h1 := congrArg List.length hdj
                  rw [List.length_drop] at h1
                  have := HSH.out
                  have := HRL.out
                  have := HSZ.out
                  have := HII.out
                  omega
end Go.Proofs.Ytdnehnjcbdkgcaa
namespace Go.Proofs.Ytdnehnjcbdkgcaa
set_option linter.unusedVariables false
set_option linter.unusedSimpArgs false
open Go.RowKit Go.Shelf Go.Proofs.YtdnehnjcbdkgcaaW.PrintWords PKindReads

set_option maxRecDepth 100000 in
set_option maxHeartbeats 2000000 in
theorem reads_great (s : ByteArray) (w : World) (hs : 3000 < s.size) : Calls Try.prog 3 #[.string s] w fun e w' => e = .returned (.bool true) ∧ Below w.heap.size w w' := by
  go_enter Try.func3, Try.ntmps3
  go_wp2_with (first | (go_at_call 8; ((with_reducible refine (alive_any _).mono ?_); rintro e w1 ⟨rfl, hB1⟩; have HB1 := Lib.hid hB1; clear hB1)))
  go_ret
  exact ⟨rfl, HB1.out⟩
set_option maxRecDepth 100000 in
set_option maxHeartbeats 2000000 in
theorem reads_none (l : List Int) (w : World) (hby : Bytes l) (hl : l.length ≤ 3000) (hr : readK l = none) : Calls Try.prog 3 #[.string (St l)] w fun e w' => e = .returned (.bool true) ∧ Below w.heap.size w w' := by
  have HR := Lib.hid (fun W => read_any l W hby (by omega))
  have HQ := Lib.hid (fun W => rread_any l W hby (by omega))
  rw [hr] at HR HQ
  unfold ReadEnds at HR HQ
  simp only at HR HQ
  have hsz := St_size l
  generalize St l = s at *
  have hs : s.size ≤ 3000 := by omega
  clear hsz hby hl hr
  go_enter Try.func3, Try.ntmps3
  go_wp2_with (first
    | (go_at_call 9; ((with_reducible refine (HR.out _).mono ?_); rintro e w1 ⟨rfl, hB⟩; have HB1 := Lib.hid hB; clear hB))
    | (go_at_call 10; ((with_reducible refine (HQ.out _).mono ?_); rintro e w2 ⟨rfl, hB⟩; have HF2 := Lib.hid (blk_below (blk_new w1 _) hB); have HB2 := Lib.hid (below_then (HB1.out.alloc HB1.out.size _) (HB1.out.alloc HB1.out.size _).size hB); clear hB))
    | (go_at_call 8; ((with_reducible refine (alive_any _).mono ?_); rintro e w3 ⟨rfl, hB⟩; have HF3 := Lib.hid (blk_below (blk_alloc HF2.out _) hB); have HG3 := Lib.hid (blk_below (blk_new w2 _) hB); have HB3 := Lib.hid (below_then (HB2.out.alloc HB2.out.size _) (HB2.out.alloc HB2.out.size _).size hB); have k0 : w3.cell? ⟨w1.heap.size, 0, none⟩ = some (.string ⟨#[]⟩) := (blk_cell HF3.out 0).trans rfl; have k1 : w3.cell? ⟨w1.heap.size, 1, none⟩ = some (.string ⟨#[]⟩) := (blk_cell HF3.out 1).trans rfl; have k2 : w3.cell? ⟨w1.heap.size, 2, none⟩ = some (.slice none 0 0) := (blk_cell HF3.out 2).trans rfl; have n0 : w3.cell? ⟨w2.heap.size, 0, none⟩ = some (.string ⟨#[]⟩) := (blk_cell HG3.out 0).trans rfl; have n1 : w3.cell? ⟨w2.heap.size, 1, none⟩ = some (.string ⟨#[]⟩) := (blk_cell HG3.out 1).trans rfl; have n2 : w3.cell? ⟨w2.heap.size, 2, none⟩ = some (.slice none 0 0) := (blk_cell HG3.out 2).trans rfl; clear hB))
    | (go_at_call 11; ((with_reducible refine (same_none _).mono ?_); rintro e w4 ⟨rfl, hB⟩; have HB4 := Lib.hid (below_then HB3.out HB3.out.size hB); clear hB)))
  go_ret
  exact ⟨rfl, HB4.out⟩
set_option maxRecDepth 100000 in
set_option maxHeartbeats 2000000 in
theorem reads_some (l t s : List Int) (ps : List Pm) (w : World) (hby : Bytes l) (hl : l.length ≤ 3000) (hr : readK l = some (t, s, ps)) : Calls Try.prog 3 #[.string (St l)] w fun e w' => e = .returned (.bool true) ∧ Below w.heap.size w w' := by
  have HR := Lib.hid (fun W => read_any l W hby (by omega))
  have HQ := Lib.hid (fun W => rread_any l W hby (by omega))
  have hR := readK_right hr
  rw [hr] at HR HQ
  have hk := (right_is hR).kok
  unfold ReadEnds at HR HQ
  simp only at HR HQ
  have HS := Lib.hid (fun A A' c c' W hP hc hP' hc' => same_yes t s ps A A' c c' W hk hP hc hP' hc')
  have hsz := St_size l
  generalize St l = z at *
  have hs : z.size ≤ 3000 := by omega
  clear hsz hby hl hr hR hk
  generalize St t = st at *
  generalize St s = ss at *
  go_enter Try.func3, Try.ntmps3
  go_wp2_with (first
    | (go_at_call 9; ((with_reducible refine (HR.out _).mono ?_); rintro e w1 ⟨v, rfl, hO, hB⟩; obtain ⟨A, c, rfl, hc, hPR⟩ := hO.reads; have HP1 := Lib.hid hPR; have HB1 := Lib.hid hB; have HC := Lib.hid hc; clear hO hPR hB hc))
    | (go_at_call 10; ((with_reducible refine (HQ.out _).mono ?_); rintro e w2 ⟨v, rfl, hO, hB⟩; obtain ⟨A2, c2, rfl, hc, hPR⟩ := hO.reads; have HQ2 := Lib.hid hPR; have HC2 := Lib.hid hc; have HF2 := Lib.hid (blk_below (blk_new w1 _) hB); have HP2 := Lib.hid ((HP1.out.alloc_ _).below hB); have HB2 := Lib.hid (below_then (HB1.out.alloc HB1.out.size _) (HB1.out.alloc HB1.out.size _).size hB); clear hO hPR hB hc))
    | (go_at_call 8; ((with_reducible refine (alive_any _).mono ?_); rintro e w3 ⟨rfl, hB⟩; have HF3 := Lib.hid (blk_below (blk_alloc HF2.out _) hB); have HG3 := Lib.hid (blk_below (blk_new w2 _) hB); have HP3 := Lib.hid ((HP2.out.alloc_ _).below hB); have HQ3 := Lib.hid ((HQ2.out.alloc_ _).below hB); have HB3 := Lib.hid (below_then (HB2.out.alloc HB2.out.size _) (HB2.out.alloc HB2.out.size _).size hB); have k0 : w3.cell? ⟨w1.heap.size, 0, none⟩ = some (.string st) := (blk_cell HF3.out 0).trans rfl; have k1 : w3.cell? ⟨w1.heap.size, 1, none⟩ = some (.string ss) := (blk_cell HF3.out 1).trans rfl; have k2 : w3.cell? ⟨w1.heap.size, 2, none⟩ = some (.slice A ps.length c) := (blk_cell HF3.out 2).trans rfl; have n0 : w3.cell? ⟨w2.heap.size, 0, none⟩ = some (.string st) := (blk_cell HG3.out 0).trans rfl; have n1 : w3.cell? ⟨w2.heap.size, 1, none⟩ = some (.string ss) := (blk_cell HG3.out 1).trans rfl; have n2 : w3.cell? ⟨w2.heap.size, 2, none⟩ = some (.slice A2 ps.length c2) := (blk_cell HG3.out 2).trans rfl; clear hB))
    | (go_at_call 11; ((with_reducible refine (HS.out A A2 c c2 _ HP3.out HC.out HQ3.out HC2.out).mono ?_); rintro e w4 ⟨rfl, hB⟩; have HB4 := Lib.hid (below_then HB3.out HB3.out.size hB); clear hB)))
  go_ret
  exact ⟨rfl, HB4.out⟩
theorem reads_law (s : ByteArray) (w : World) (hs0 : s.size ≤ 140737488351232) : Calls Try.prog 3 #[.string s] w fun e w' => e = .returned (.bool true) ∧ Below w.heap.size w w' := by
  by_cases hs : 3000 < s.size
  · exact reads_great s w hs
  · obtain ⟨l, hb, rfl⟩ := st_of s
    rw [St_size] at hs
    rcases hr : readK l with _ | ⟨t, s, ps⟩
    · exact reads_none l w hb (by omega) hr
    · exact reads_some l t s ps w hb (by omega) hr
end Go.Proofs.Ytdnehnjcbdkgcaa
