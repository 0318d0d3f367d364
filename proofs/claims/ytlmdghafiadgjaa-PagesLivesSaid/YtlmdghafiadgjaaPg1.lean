/- pages, plain: what Pack and Unpack tell; the document's way is the same. -/
import Derived.Test.YtlmdghafiadgjaaPg0
namespace Go.Proofs.Ytlmdghafiadgjaa
set_option linter.unusedVariables false
set_option linter.unusedSimpArgs false
open Go.RowKit Go.Proofs.YtlmdghafiadgjaaW.PrintWords

def packV (k n t : Int) (c : List Int) : List Int × Int :=
  if 996 < c.length then ([], 2) else if n < 0 ∨ 16384 ≤ n ∨ k = 0 then ([], 1) else (packL k n t c, 0)
def unpackV (b : List Int) (n : Int) : Int × Int × List Int × Int := if pageB b n = true then (rd b 0, pgT b, pgC b, 0) else (0, 0, [], 161)
theorem rd_byte {b : List Int} (h : Bytes b) (i : Nat) : 0 ≤ rd b (i : Int) ∧ rd b (i : Int) ≤ 255 := h.rd i
theorem pgT_range {b : List Int} (h : Bytes b) (hl : b.length = 1024) : 0 ≤ pgT b ∧ pgT b < 18446744073709551616 := by
  have := ge_range (seg_bytes h 8 16)
  rw [seg_len (by omega)] at this
  exact ⟨this.1, by have := this.2; unfold pgT; omega⟩
theorem pgC_len {b : List Int} (hl : b.length = 1024) (hm : ge (seg b 2 4) ≤ 996) : (pgC b).length = (ge (seg b 2 4)).toNat := by
  unfold pgC
  rw [seg_len (by omega)]; omega
theorem page_ok {b : List Int} {n : Int} (hb : Bytes b) (hl : b.length = 1024) (hm : ge (seg b 2 4) ≤ 996) (h0 : 0 ≤ n) (h1 : n < 16384) (hk : rd b 0 ≠ 0) : PkOk (rd b 0) n (pgT b) (pgC b) := by
  have hr := rd_byte hb 0
  rw [show ((0 : Nat) : Int) = 0 from rfl] at hr
  have ht := pgT_range hb hl
  exact ⟨by omega, hr.2, h0, h1, ht.1, ht.2, by rw [pgC_len hl hm]; omega, seg_bytes hb _ _⟩
/-- The document's test: the page that would be written so. -/
theorem page_iff {b : List Int} {n : Int} (hb : Bytes b) : IsPage b n ↔ b.length = 1024 ∧ ge (seg b 2 4) ≤ 996 ∧ (packV (rd b 0) n (pgT b) (pgC b)).2 = 0 ∧ (packV (rd b 0) n (pgT b) (pgC b)).1 = b := by
  constructor
  · intro h
    have hm := h.m
    have hl := h.len
    have hc := pgC_len hl hm
    have e : packV (rd b 0) n (pgT b) (pgC b) = (packL (rd b 0) n (pgT b) (pgC b), 0) := by
      unfold packV
      rw [if_neg (by omega), if_neg (by have := h.n0; have := h.n1; have := h.k; omega)]
    rw [e]
    exact ⟨hl, hm, rfl, page_pack hb h⟩
  · rintro ⟨hl, hm, h2, h3⟩
    unfold packV at h2 h3
    by_cases h4 : 996 < (pgC b).length
    · rw [if_pos h4] at h2; cases h2
    · rw [if_neg h4] at h2 h3
      by_cases h5 : n < 0 ∨ 16384 ≤ n ∨ rd b 0 = 0
      · rw [if_pos h5] at h2; cases h2
      · rw [if_neg h5] at h3
        have hp := (pack_page (page_ok hb hl hm (n := n) (by omega) (by omega) (by omega))).1
        rw [show packL (rd b 0) n (pgT b) (pgC b) = b from h3] at hp
        exact hp
/-- There and back. -/
theorem unpack_pack {k n t : Int} {c : List Int} (h : PkOk k n t c) : unpackV (packL k n t c) n = (k, t, c, 0) := by
  obtain ⟨h1, h2, h3, h4⟩ := pack_page h
  unfold unpackV
  rw [if_pos ((pageB_iff _ _).2 h1), h2, h3, h4]
theorem unpack_other {k n t : Int} {c : List Int} (h : PkOk k n t c) {m : Int} (hm : m ≠ n) : unpackV (packL k n t c) m = (0, 0, [], 161) := by
  have h1 := (pack_page h).1
  unfold unpackV
  rw [if_neg (fun e => hm ?_)]
  have h2 := (pageB_iff _ _).1 e
  rw [← h2.at_, h1.at_]
theorem unpack_turned {k n t : Int} {c : List Int} (h : PkOk k n t c) {p : Nat} (hp : p < 1024) {u : Int} (hu : 0 ≤ u ∧ u ≤ 255) (hne : u ≠ rd (packL k n t c) (p : Int)) (m : Int) : unpackV ((packL k n t c).set p u) m = (0, 0, [], 161) := by
  have h1 := (pack_page h).1
  unfold unpackV
  rw [if_neg (fun e => turned_no (packL_bytes ⟨Int.le_of_lt h.k0, h.k1⟩ h.c) h1 hp hu hne m ((pageB_iff _ _).1 e))]
theorem pack_unpack {b : List Int} {n : Int} (hb : Bytes b) (h : (unpackV b n).2.2.2 = 0) : packV (unpackV b n).1 n (unpackV b n).2.1 (unpackV b n).2.2.1 = (b, 0) := by
  unfold unpackV at h ⊢
  by_cases hp : pageB b n = true
  · rw [if_pos hp]
    have h1 := (page_iff hb).1 ((pageB_iff _ _).1 hp)
    exact Prod.ext h1.2.2.2 h1.2.2.1
  · rw [if_neg hp] at h; cases h
end Go.Proofs.Ytlmdghafiadgjaa
