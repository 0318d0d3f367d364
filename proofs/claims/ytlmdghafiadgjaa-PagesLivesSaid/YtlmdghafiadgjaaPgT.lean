/- The law PagesTurned. -/
import Derived.Test.YtlmdghafiadgjaaPgB
namespace Go.Proofs.Ytlmdghafiadgjaa
set_option linter.unusedVariables false
set_option linter.unusedSimpArgs false
open Go.RowKit Go.Proofs.YtlmdghafiadgjaaW.PrintWords Go.Proofs.YtlmdghafiadgjaaW.PrintLast

def xr (a b : Int) : Int := bits BinOp.xor IntKind.u8 a b
theorem xr_range (a b : Int) : 0 ≤ xr a b ∧ xr a b ≤ 255 := by
  unfold xr bits
  simp only [IntKind.wrap_u8]
  omega
theorem xr_ne {a b : Int} (ha : 0 ≤ a ∧ a ≤ 255) (hb : 0 ≤ b ∧ b ≤ 255) (h : b ≠ 0) : xr a b ≠ a := by
  have hall : (List.range 256).all (fun x => (List.range 256).all (fun y => y == 0 || xr (x : Int) (y : Int) != (x : Int))) = true := by decide +kernel
  rw [List.all_eq_true] at hall
  have h1 := hall a.toNat (by rw [List.mem_range]; omega)
  rw [List.all_eq_true] at h1
  have h2 := h1 b.toNat (by rw [List.mem_range]; omega)
  rw [show ((a.toNat : Nat) : Int) = a by omega, show ((b.toNat : Nat) : Int) = b by omega] at h2
  rw [Bool.or_eq_true] at h2
  rcases h2 with h2 | h2
  · rw [beq_iff_eq] at h2; omega
  · exact bne_iff_ne.1 h2
theorem seg_all {l : List Int} {n : Nat} (h : l.length = n) : seg l 0 n = l := by
  subst h; simp [seg]
set_option maxRecDepth 100000 in
set_option maxHeartbeats 4000000 in
theorem turned_bad (k n t : Int) (A : Option Addr) (l : List Int) (c : Nat) (at_ by_ o : Int) (w : World) (hr : ReadsInt w .u8 A l.length l) (hx : Bytes l) (hk : 0 ≤ k ∧ k ≤ 255) (ht : 0 ≤ t ∧ t < 18446744073709551616) (h : (packV k n t l).2 ≠ 0) :
    Calls Try.prog 5 #[.int .u8 k, .int .i64 n, .int .u64 t, .slice A l.length c, .int .i64 at_, .int .u8 by_, .int .i64 o] w fun e w' => e = .returned (.bool true) ∧ Below w.heap.size w w' := by
  have HP := Lib.hid (pack_any k n t A c l w hr hx hk.1 hk.2 ht.1 ht.2)
  have hb : ((packV k n t l).2 != 0) = true := bne_iff_ne.mpr h
  clear hr hx
  generalize packV k n t l = pk at *
  go_enter Try.func5, Try.ntmps5
  go_wp2_with (first
    | (go_at_call 10; ((with_reducible refine HP.out.mono ?_); rintro e w1 ⟨v, rfl, hB, _, hn⟩; obtain ⟨rfl, _⟩ := hn h; have HB1 := Lib.hid hB; clear hB hn))
    | (go_at_call 9; ((with_reducible refine (alive_any _).mono ?_); rintro e3 w3 ⟨rfl, hB⟩; have HB4 := Lib.hid (below_then HB1.out HB1.out.size hB); clear hB)))
  go_ret
  exact ⟨rfl, HB4.out⟩
set_option maxRecDepth 100000 in
set_option maxHeartbeats 4000000 in
theorem turned_out (k n t : Int) (A : Option Addr) (l : List Int) (c : Nat) (at_ by_ o : Int) (w : World) (hr : ReadsInt w .u8 A l.length l) (hx : Bytes l) (hk : 0 ≤ k ∧ k ≤ 255) (ht : 0 ≤ t ∧ t < 18446744073709551616) (h : (packV k n t l).2 = 0) (hat : at_ < 0 ∨ (0 ≤ at_ ∧ 1024 ≤ at_) ∨ (0 ≤ at_ ∧ at_ < 1024 ∧ by_ = 0)) :
    Calls Try.prog 5 #[.int .u8 k, .int .i64 n, .int .u64 t, .slice A l.length c, .int .i64 at_, .int .u8 by_, .int .i64 o] w fun e w' => e = .returned (.bool true) ∧ Below w.heap.size w w' := by
  have HP := Lib.hid (pack_any k n t A c l w hr hx hk.1 hk.2 ht.1 ht.2)
  have hb : ((packV k n t l).2 != 0) = false := by rw [h]; rfl
  have HU := Lib.hid (fun g W (hR : RowP W g (packV k n t l).1) (hl : (packV k n t l).1.length = 1024) (hy : Bytes (packV k n t l).1) => unpack_any (some ⟨g, 0, none⟩) 1024 1024 (packV k n t l).1 o W (by have := hR.reads (a := 0) (b := 1024) (by omega) (by omega) (by omega); rw [seg_all hl] at this; exact this) hy)
  obtain ⟨uv, huv⟩ : ∃ uv, unpackV (packV k n t l).1 o = uv := ⟨_, rfl⟩
  rw [huv] at HU
  have hor : (o = n ∧ Hid (PkOk k n t l → (packV k n t l).1 = packL k n t l → uv = (k, t, l, 0))) ∨ ((o == n) = false ∧ Hid (PkOk k n t l → (packV k n t l).1 = packL k n t l → uv = (0, 0, [], 161))) := by
    by_cases ho : o = n
    · refine .inl ⟨ho, Lib.hid fun hok e => ?_⟩
      rw [← huv, e, ho, unpack_pack hok]
    · refine .inr ⟨by simp [ho], Lib.hid fun hok e => ?_⟩
      rw [← huv, e, unpack_other hok ho]
  clear huv
  clear hr hx
  generalize packV k n t l = pk at *
  rcases hor with ⟨rfl, HQ⟩ | ⟨hor, HQ⟩ <;> rcases hat with hat | ⟨hat, hat2⟩ | ⟨hat, hat2, rfl⟩
  all_goals
    go_enter Try.func5, Try.ntmps5
    go_wp2_with (first
      | (go_at_call 10; ((with_reducible refine HP.out.mono ?_); rintro e w1 ⟨v, rfl, hB, hy, _⟩; obtain ⟨g, rfl, hR1, hg1, hl1, hby1, hok, hpe⟩ := hy h; obtain rfl := HQ.out hok hpe; have HB1 := Lib.hid hB; have HR1 := Lib.hid hR1; have HU1 := Lib.hid (HU.out g w1 hR1 hl1 hby1); clear hB hy hR1 hpe hok))
      | (go_at_call 12; ((with_reducible refine HU1.out.mono ?_); rintro e w2 ⟨v2, rfl, hO2, hB2⟩; have HB2 := Lib.hid (below_then HB1.out HB1.out.size hB2); clear hO2 hB2))
      | (go_at_call 9; ((with_reducible refine (alive_any _).mono ?_); rintro e3 w3 ⟨rfl, hB⟩; have HB4 := Lib.hid (below_then HB2.out HB2.out.size hB); clear hB)))
    go_ret
    exact ⟨rfl, HB4.out⟩
set_option maxRecDepth 100000 in
set_option maxHeartbeats 4000000 in
theorem turned_in (k n t : Int) (A : Option Addr) (l : List Int) (c : Nat) (at_ by_ o : Int) (w : World) (hr : ReadsInt w .u8 A l.length l) (hx : Bytes l) (hk : 0 ≤ k ∧ k ≤ 255) (ht : 0 ≤ t ∧ t < 18446744073709551616) (h : (packV k n t l).2 = 0) (h0 : 0 ≤ at_) (h1 : at_ < 1024) (hby : 1 ≤ by_ ∧ by_ ≤ 255) :
    Calls Try.prog 5 #[.int .u8 k, .int .i64 n, .int .u64 t, .slice A l.length c, .int .i64 at_, .int .u8 by_, .int .i64 o] w fun e w' => e = .returned (.bool true) ∧ Below w.heap.size w w' := by
  have HP := Lib.hid (pack_any k n t A c l w hr hx hk.1 hk.2 ht.1 ht.2)
  have hb : ((packV k n t l).2 != 0) = false := by rw [h]; rfl
  have HU := Lib.hid (fun g W (hR : RowP W g (packV k n t l).1) (hl : (packV k n t l).1.length = 1024) (hy : Bytes (packV k n t l).1) => unpack_any (some ⟨g, 0, none⟩) 1024 1024 (packV k n t l).1 o W (by have := hR.reads (a := 0) (b := 1024) (by omega) (by omega) (by omega); rw [seg_all hl] at this; exact this) hy)
  obtain ⟨j, rfl⟩ : ∃ j : Nat, at_ = (j : Int) := ⟨at_.toNat, by omega⟩
  have hj : j < 1024 := by omega
  have hb0 : (by_ == 0) = false := by simp; omega
  have hw8 : bits BinOp.xor IntKind.u8 (rd (packV k n t l).1 (j : Int)) by_ = xr (rd (packV k n t l).1 (j : Int)) by_ := rfl
  have HU3 := Lib.hid (fun g W (hok : PkOk k n t l) (hpe : (packV k n t l).1 = packL k n t l) (hR : RowP W g ((packV k n t l).1.set j (xr (rd (packV k n t l).1 (j : Int)) by_))) (hl : (packV k n t l).1.length = 1024) (hy : Bytes (packV k n t l).1) => (show Calls Try.prog 12 #[.slice (some ⟨g, 0, none⟩) 1024 1024, .int .i64 n] W (UnpEnds W (0, 0, [], 161)) by
    have hl2 : ((packV k n t l).1.set j (xr (rd (packV k n t l).1 (j : Int)) by_)).length = 1024 := by rw [List.length_set]; exact hl
    have hy2 : Bytes ((packV k n t l).1.set j (xr (rd (packV k n t l).1 (j : Int)) by_)) := fun x hx => (List.mem_or_eq_of_mem_set hx).elim (hy x) (fun e => by rw [e]; exact xr_range _ _)
    have h8 := unpack_any (some ⟨g, 0, none⟩) 1024 1024 _ n W (by have := hR.reads (a := 0) (b := 1024) (by omega) (by omega) (by omega); rw [seg_all hl2] at this; exact this) hy2
    rw [hpe] at h8 hy
    rw [unpack_turned hok hj (xr_range _ _) (xr_ne (hy.rd j) ⟨by omega, hby.2⟩ (by omega)) n] at h8
    exact h8))
  have HST := Lib.hid (fun g W (hR : RowP W g (packV k n t l).1) => (show RowP (W.setCell ⟨g, j, none⟩ (.int .u8 (xr (rd (packV k n t l).1 (j : Int)) by_))) g ((packV k n t l).1.set j (xr (rd (packV k n t l).1 (j : Int)) by_)) by
    have h9 := blk_set hR j (.int .u8 (xr (rd (packV k n t l).1 (j : Int)) by_))
    unfold RowP
    rw [h9]
    simp [nums, List.map_set]))
  have HCJ := Lib.hid (fun g W (hR : RowP W g (packV k n t l).1) (hl : (packV k n t l).1.length = 1024) => hR.cell j (by omega))
  obtain ⟨uv, huv⟩ : ∃ uv, unpackV (packV k n t l).1 o = uv := ⟨_, rfl⟩
  rw [huv] at HU
  have hor : (o = n ∧ Hid (PkOk k n t l → (packV k n t l).1 = packL k n t l → uv = (k, t, l, 0))) ∨ ((o == n) = false ∧ Hid (PkOk k n t l → (packV k n t l).1 = packL k n t l → uv = (0, 0, [], 161))) := by
    by_cases ho : o = n
    · refine .inl ⟨ho, Lib.hid fun hok e => ?_⟩
      rw [← huv, e, ho, unpack_pack hok]
    · refine .inr ⟨by simp [ho], Lib.hid fun hok e => ?_⟩
      rw [← huv, e, unpack_other hok ho]
  clear huv
  clear hr hx
  generalize packV k n t l = pk at *
  generalize hxx : xr (rd pk.1 (j : Int)) by_ = xx at *
  rcases hor with ⟨rfl, HQ⟩ | ⟨hor, HQ⟩
  all_goals
    go_enter Try.func5, Try.ntmps5
    go_wp2_with (first
      | (go_at_call 10; ((with_reducible refine HP.out.mono ?_); rintro e w1 ⟨v, rfl, hB, hy, _⟩; obtain ⟨g, rfl, hR1, hg1, hl1, hby1, hok, hpe⟩ := hy h; obtain rfl := HQ.out hok hpe; have HB1 := Lib.hid hB; have HR1 := Lib.hid hR1; have HU1 := Lib.hid (HU.out g w1 hR1 hl1 hby1); have HHP := Lib.hid (And.intro hok hpe); have HL1 := Lib.hid hl1; have HY1 := Lib.hid hby1; have HG1 := Lib.hid hg1; clear hB hy hR1 hpe hok))
      | (go_at_call 12; ((with_reducible refine HU1.out.mono ?_); rintro e w2 ⟨v2, rfl, hO2, hB2⟩; have HB2 := Lib.hid (below_then HB1.out HB1.out.size hB2); have hR2 : RowP w2 g pk.1 := HR1.out.keep (hB2.block g HR1.out.lt); have cj := HCJ.out g w2 hR2 HL1.out; have fj := blk_frozen hR2 j; have HR3 := Lib.hid (HST.out g w2 hR2); have HUX := Lib.hid (HU3.out g _ HHP.out.1 HHP.out.2 HR3.out HL1.out HY1.out); have HB3 := Lib.hid (HB2.out.setCell (p := ⟨g, j, none⟩) HG1.out (.int .u8 xx)); clear hO2 hB2))
      | (go_at_call 12; ((with_reducible refine HUX.out.mono ?_); rintro e w4 ⟨v4, rfl, hO4, hB4⟩; obtain ⟨A4, c4, rfl, _, _⟩ := hO4.reads; have HB5 := Lib.hid (below_then HB3.out HB3.out.size hB4); clear hO4 hB4))
      | (go_at_call 9; ((with_reducible refine (alive_any _).mono ?_); rintro e3 w3 ⟨rfl, hB⟩; have HB4 := Lib.hid (below_then HB5.out HB5.out.size hB); clear hB)))
    go_ret
    exact ⟨rfl, HB4.out⟩
theorem wf_u8 {l : List Int} (h : ∀ n ∈ l, (Lit.int .u8 n).wf = true) : Bytes l := fun x hx => by
  have := h x hx
  simp only [Lit.wf, Bool.and_eq_true, decide_eq_true_eq] at this
  exact ⟨this.1, this.2⟩
theorem wf_u64 {t : Int} (h : (Lit.int .u64 t).wf = true) : 0 ≤ t ∧ t < 18446744073709551616 := by
  simp only [Lit.wf, Bool.and_eq_true, decide_eq_true_eq] at h
  have h2 : t ≤ 18446744073709551615 := h.2
  exact ⟨h.1, by omega⟩
theorem wf_b8 {t : Int} (h : (Lit.int .u8 t).wf = true) : 0 ≤ t ∧ t ≤ 255 := by
  simp only [Lit.wf, Bool.and_eq_true, decide_eq_true_eq] at h
  exact ⟨h.1, h.2⟩
theorem turned_law (k n t : Int) (A : Option Addr) (l : List Int) (c : Nat) (at_ by_ o : Int) (w : World) (hk : (Lit.int .u8 k).wf = true) (_ : (Lit.int .i64 n).wf = true) (ht : (Lit.int .u64 t).wf = true) (hr : ReadsInt w .u8 A l.length l) (wl : ∀ n ∈ l, (Lit.int .u8 n).wf = true) (hc : l.length ≤ c) (_ : l.length * 1 ≤ 140737488351232) (_ : (Lit.int .i64 at_).wf = true) (hb : (Lit.int .u8 by_).wf = true) (_ : (Lit.int .i64 o).wf = true) :
    Calls Try.prog 5 #[.int .u8 k, .int .i64 n, .int .u64 t, .slice A l.length c, .int .i64 at_, .int .u8 by_, .int .i64 o] w fun e w' => e = .returned (.bool true) ∧ Below w.heap.size w w' := by
  by_cases h : (packV k n t l).2 = 0
  · by_cases h1 : 0 ≤ at_ ∧ at_ < 1024 ∧ by_ ≠ 0
    · have := wf_b8 hb
      exact turned_in k n t A l c at_ by_ o w hr (wf_u8 wl) (wf_b8 hk) (wf_u64 ht) h h1.1 h1.2.1 ⟨by omega, this.2⟩
    · exact turned_out k n t A l c at_ by_ o w hr (wf_u8 wl) (wf_b8 hk) (wf_u64 ht) h (by omega)
  · exact turned_bad k n t A l c at_ by_ o w hr (wf_u8 wl) (wf_b8 hk) (wf_u64 ht) h
end Go.Proofs.Ytlmdghafiadgjaa
