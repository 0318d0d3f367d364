/- kind: alive. -/
import Derived.Test.YtdnehnjcbdkgcaaK10
namespace Go.Proofs.Ytdnehnjcbdkgcaa
set_option linter.unusedVariables false
set_option linter.unusedSimpArgs false
open Go.RowKit Go.Shelf Go.Proofs.YtdnehnjcbdkgcaaW.PrintWords PKindReads

theorem PRow.alloc_ {w : World} {A : Option Addr} {ps : List Pm} (h : PRow w A ps) (o : Obj) : PRow (w.alloc o) A ps := h.below ((Below.refl _ _).alloc (Nat.le_refl _) o)
theorem alive_reads : readK [84, 101, 120, 116, 47, 67, 97, 108, 101, 110, 100, 97, 114, 59, 32, 77, 69, 84, 72, 79, 68, 61, 34, 82, 69, 80, 76, 89, 34] = some ([116, 101, 120, 116], [99, 97, 108, 101, 110, 100, 97, 114], [([109, 101, 116, 104, 111, 100], [82, 69, 80, 76, 89])]) := by decide +kernel
theorem alive_none : readK [116, 101, 120, 116] = none := by decide +kernel
set_option maxRecDepth 100000 in
set_option maxHeartbeats 2000000 in
theorem alive_any (w : World) : Calls Try.prog 8 #[] w fun e w' => e = .returned (.bool true) ∧ Below w.heap.size w w' := by
  have HR1 : Hid (∀ W : World, Calls Try.prog 9 #[.string ⟨#[84, 101, 120, 116, 47, 67, 97, 108, 101, 110, 100, 97, 114, 59, 32, 77, 69, 84, 72, 79, 68, 61, 34, 82, 69, 80, 76, 89, 34]⟩] W fun e w' => ∃ v, e = .returned (.tuple #[.agg #[.string (St [116, 101, 120, 116]), .string (St [99, 97, 108, 101, 110, 100, 97, 114]), v], .int .i64 0]) ∧ PO w' W.heap.size v [([109, 101, 116, 104, 111, 100], [82, 69, 80, 76, 89])] ∧ Below W.heap.size W w') := Lib.hid (fun W => by
    have h := read_any [84, 101, 120, 116, 47, 67, 97, 108, 101, 110, 100, 97, 114, 59, 32, 77, 69, 84, 72, 79, 68, 61, 34, 82, 69, 80, 76, 89, 34] W (by intro x hx; simp at hx; omega) (by decide)
    rw [alive_reads] at h
    exact h)
  have HR2 : Hid (∀ W : World, Calls Try.prog 9 #[.string ⟨#[116, 101, 120, 116]⟩] W fun e w' => e = .returned (.tuple #[.agg #[.string ⟨#[]⟩, .string ⟨#[]⟩, .slice none 0 0], .int .i64 70]) ∧ Below W.heap.size W w') := Lib.hid (fun W => by
    have h := read_any [116, 101, 120, 116] W (by intro x hx; simp at hx; omega) (by decide)
    rw [alive_none] at h
    exact h)
  have hps : PsB [([109, 101, 116, 104, 111, 100], [82, 69, 80, 76, 89])] := fun p hp => by
    rw [List.mem_singleton.1 hp]
    exact ⟨by intro x hx; simp at hx; omega, by intro x hx; simp at hx; omega⟩
  have HG : Hid (∀ (W : World) (A : Option Addr) (c : Nat), PRow W A [([109, 101, 116, 104, 111, 100], [82, 69, 80, 76, 89])] → 1 ≤ c → Calls Try.prog 15 #[.agg #[.string (St [116, 101, 120, 116]), .string (St [99, 97, 108, 101, 110, 100, 97, 114]), .slice A 1 c], .string ⟨#[109, 101, 116, 104, 111, 100]⟩] W fun e w' => e = .returned (.tuple #[.string ⟨#[82, 69, 80, 76, 89]⟩, .bool true]) ∧ Below W.heap.size W w') := Lib.hid (fun W A c hP hc => by
    exact get_any [116, 101, 120, 116] [99, 97, 108, 101, 110, 100, 97, 114] [109, 101, 116, 104, 111, 100] [([109, 101, 116, 104, 111, 100], [82, 69, 80, 76, 89])] A c W hps (by intro x hx; simp at hx; omega) (by decide) hP hc)
  have HI : Hid (∀ (W : World) (A : Option Addr) (c : Nat), PRow W A [([109, 101, 116, 104, 111, 100], [82, 69, 80, 76, 89])] → 1 ≤ c → Calls Try.prog 19 #[.agg #[.string (St [116, 101, 120, 116]), .string (St [99, 97, 108, 101, 110, 100, 97, 114]), .slice A 1 c], .string ⟨#[116, 101, 120, 116, 47, 99, 97, 108, 101, 110, 100, 97, 114]⟩] W fun e w' => e = .returned (.bool true) ∧ Below W.heap.size W w') := Lib.hid (fun W A c hP hc => by
    have h := is_any [116, 101, 120, 116] [99, 97, 108, 101, 110, 100, 97, 114] [116, 101, 120, 116, 47, 99, 97, 108, 101, 110, 100, 97, 114] [([109, 101, 116, 104, 111, 100], [82, 69, 80, 76, 89])] A c W (by intro x hx; simp at hx; omega) (by intro x hx; simp at hx; omega) (by intro x hx; simp at hx; omega) (by decide) hP hc
    exact h)
  clear hps
  go_enter Try.func8, Try.ntmps8
  go_wp2_with (first
    | (go_at_call 9; ((with_reducible refine (HR1.out _).mono ?_); rintro e w1 ⟨v, rfl, hO, hB⟩; obtain ⟨A, c, rfl, hc, hPR⟩ := hO.reads; have HP1 := Lib.hid hPR; have HB1 := Lib.hid hB; have HC : Hid (1 ≤ c) := Lib.hid hc; clear hO hPR hB hc))
    | (go_at_call 15; ((with_reducible refine (HG.out _ A c (HP1.out.alloc_ _) HC.out).mono ?_); rintro e w2 ⟨rfl, hB⟩; have HF2 := Lib.hid (blk_below (blk_new w1 _) hB); have m0 : w2.cell? ⟨w1.heap.size, 0, none⟩ = some (.string (St [116, 101, 120, 116])) := (blk_cell HF2.out 0).trans rfl; have HP2 := Lib.hid ((HP1.out.alloc_ _).below hB); have HB2 := Lib.hid (below_then (HB1.out.alloc HB1.out.size _) (HB1.out.alloc HB1.out.size _).size hB); clear hB))
    | (go_at_call 9; ((with_reducible refine (HR2.out _).mono ?_); rintro e w3 ⟨rfl, hB⟩; have HF3 := Lib.hid (blk_below HF2.out hB); have HP3 := Lib.hid (HP2.out.below hB); have HB3 := Lib.hid (below_then HB2.out HB2.out.size hB); have hne : w1.heap.size < w3.heap.size := blk_lt HF3.out; have hn1 : w1.heap.size ≠ w3.heap.size := Nat.ne_of_lt hne; have hn2 := hn1.symm; have k0 : w3.cell? ⟨w1.heap.size, 0, none⟩ = some (.string (St [116, 101, 120, 116])) := (blk_cell HF3.out 0).trans rfl; have k1 : w3.cell? ⟨w1.heap.size, 1, none⟩ = some (.string (St [99, 97, 108, 101, 110, 100, 97, 114])) := (blk_cell HF3.out 1).trans rfl; have k2 : w3.cell? ⟨w1.heap.size, 2, none⟩ = some (.slice A 1 c) := (blk_cell HF3.out 2).trans rfl; clear hB))
    | (go_at_call 19; ((with_reducible refine (HI.out _ A c (HP3.out.alloc_ _) HC.out).mono ?_); rintro e w4 ⟨rfl, hB⟩; have HB4 := Lib.hid (below_then (HB3.out.alloc HB3.out.size _) (HB3.out.alloc HB3.out.size _).size hB); clear hB)))
  go_ret
  exact ⟨rfl, HB4.out⟩
end Go.Proofs.Ytdnehnjcbdkgcaa
