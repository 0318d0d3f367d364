/- The document's quoted: value, trailing. -/
import Derived.Test.YtdebimpjbcihhaaQRef2
import Derived.Test.YtdebimpjbcihhaaQDec2
import Derived.Test.YtdebimpjbcihhaaPQuotedDecodesx3
namespace Go.Proofs.Ytdebimpjbcihhaa
open Go.RowKit Go.Proofs.YtdebimpjbcihhaaW.PrintWords

open PQuotedDecodes in
theorem rvalue_all : ∀ c : Fin 256, posthornref03_value.f 5 (c.val : Int) = some (hv c.val) := by decide +kernel
open PQuotedDecodes in
theorem rvalue_any (c : Int) (w : World) (h0 : 0 ≤ c) (h1 : c ≤ 255) : Calls Try.prog 26 #[.int .u8 c] w fun e w' => e = .returned (.int .i64 (hv c)) ∧ Drawn0 w w' := by
  have h := rvalue_all ⟨c.toNat, by omega⟩
  rw [show ((c.toNat : Nat) : Int) = c by omega] at h
  exact posthornref03_value.calls 5 c _ w h
open PQuotedDecodes in
theorem rpair_eq2 (l : List Int) (i : Int) (h0 : 0 ≤ i) (h1 : i ≤ 9000000000000000000) (hl : (l.length : Int) ≤ 9000000000000000000) : posthornref03_Pair.f l i = some (prs l i) := rpair_eq l i h0 h1 hl
open PQuotedDecodes in
theorem trailing_loop (l : List Int) (hl : l.length ≤ 100000000) (f : Nat) : ∀ i, i ≤ l.length → l.length - i ≤ f → Ev (fun k => posthornref03_trailing.l0 k l (i : Int)) (trl l i) := by
  have hend : Ev (fun k => posthornref03_trailing.l0 k l (l.length : Int)) (trl l l.length) := by
    refine Ev.step (by intro k; rw [posthornref03_trailing.l0]) ?_
    refine Ev.neg (by omega) ?_
    refine Ev.pos (by omega) ?_
    rw [trl, Nat.sub_self, skp, decide_eq_true rfl, Bool.true_or]
    exact Ev.done _
  induction f with
  | zero =>
    intro i hi hf
    obtain rfl : i = l.length := by omega
    exact hend
  | succ f ih =>
    intro i hi hf
    by_cases hlt : i < l.length
    · refine Ev.step (by intro k; rw [posthornref03_trailing.l0]) ?_
      refine Ev.pos (by omega) ?_
      refine Ev.pos (by omega) ?_
      by_cases hb : isBl (rd l i) = true
      · have hb2 := hb
        simp only [isBl, decide_eq_true_eq] at hb2
        rw [trl_step l i hlt hb, wrap64_id ((i : Int) + 1) (by omega) (by omega)]
        have hn := ih (i + 1) hlt (by omega)
        by_cases h32 : rd l (i : Int) = 32
        · refine Ev.pos h32 ?_; exact hn
        · refine Ev.neg h32 ?_
          refine Ev.pos (by omega) ?_
          exact hn
      · have hb' : isBl (rd l i) = false := by simpa using hb
        have hb2 := hb'
        simp only [isBl, decide_eq_false_iff_not] at hb2
        refine Ev.neg (by omega) ?_
        refine Ev.neg (by omega) ?_
        refine Ev.neg (by omega) ?_
        rw [rpair_eq2 l i (by omega) (by omega) (by omega), trl_skp, skp_not _ _ _ hb', decide_eq_false (by omega), Bool.false_or]
        exact Ev.done _
    · obtain rfl : i = l.length := by omega
      exact hend
open PQuotedDecodes in
theorem rtrailing_any (A : Option Addr) (c i : Nat) (l : List Int) (w : World) (hr : ReadsInt w .u8 A l.length l) (hc : l.length ≤ c) (hi : i ≤ l.length) (hl : l.length ≤ 100000000) :
    Calls Try.prog 27 #[.slice A l.length c, .int .i64 i] w fun e w' => e = .returned (.bool (trl l i)) ∧ Drawn0 w w' := by
  obtain ⟨k, hk⟩ := (trailing_loop l hl l.length i hi (by omega)).get
  exact posthornref03_trailing.calls k A c l i _ w (Kd.C_of_reads (readsInt_of.1 hr)) hc hk
end Go.Proofs.Ytdebimpjbcihhaa
