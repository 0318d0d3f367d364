/- The law KindRight, walked. -/
import Derived.Test.YtdnehnjcbdkgcaaKP2
namespace Go.Proofs.Ytdnehnjcbdkgcaa
set_option linter.unusedVariables false
set_option linter.unusedSimpArgs false
open Go.RowKit Go.Shelf Go.Proofs.YtdnehnjcbdkgcaaW.PrintWords PKindReads

theorem token_bytes {l : List Int} (h : tokenB l = true) : Bytes l := fun x hx => by
  have := sgn_not_blank (((tokenB_iff l).1 h).1 x hx)
  omega
theorem small_bytes {l : List Int} (h : smallB l = true) : Bytes l := token_bytes ((smallB_iff l).1 h).1
theorem value_bytes {l : List Int} (h : valueB l = true) : Bytes l := fun x hx => by
  unfold valueB at h
  simp only [Bool.and_eq_true, List.all_eq_true] at h
  have h2 := h.1 x hx
  unfold prtB at h2
  simp only [Bool.and_eq_true, decide_eq_true_eq] at h2
  omega
theorem RightIs.kok {t s : List Int} {ps : List Pm} (h : RightIs t s ps) : KOk t s ps :=
  ⟨small_bytes h.t, small_bytes h.s, Nat.le_trans (small_len h.t) (by omega), Nat.le_trans (small_len h.s) (by omega), Nat.le_trans h.n (by omega),
    fun p hp => ⟨small_bytes (h.p p hp).1, Nat.le_trans (small_len (h.p p hp).1) (by omega)⟩, fun p hp => ⟨value_bytes (h.p p hp).2, Nat.le_trans (valueB_len (h.p p hp).2) (by omega)⟩⟩
theorem KOk.psb {t s : List Int} {ps : List Pm} (h : KOk t s ps) : PsB ps := fun p hp => ⟨(h.p1 p hp).1, (h.p2 p hp).1⟩
theorem PRow.nil (w : World) : PRow w none [] := Kd.C_nil _ w
theorem same_none (w : World) : Calls Try.prog 11 #[.agg #[.string ⟨#[]⟩, .string ⟨#[]⟩, .slice none 0 0], .agg #[.string ⟨#[]⟩, .string ⟨#[]⟩, .slice none 0 0]] w fun e w' => e = .returned (.bool true) ∧ Below w.heap.size w w' := by
  have hb : Bytes ([] : List Int) := fun x hx => by cases hx
  exact same_any [] [] [] [] [] [] none none 0 0 w hb hb hb hb (fun p hp => by cases hp) (fun p hp => by cases hp) (by decide) (PRow.nil w) (Nat.le_refl _) (PRow.nil w) (Nat.le_refl _)
theorem same_yes (t s : List Int) (ps : List Pm) (A A' : Option Addr) (c c' : Nat) (w : World) (hk : KOk t s ps) (hP : PRow w A ps) (hc : ps.length ≤ c) (hP' : PRow w A' ps) (hc' : ps.length ≤ c') :
    Calls Try.prog 11 #[.agg #[.string (St t), .string (St s), .slice A ps.length c], .agg #[.string (St t), .string (St s), .slice A' ps.length c']] w fun e w' => e = .returned (.bool true) ∧ Below w.heap.size w w' := by
  have h := same_any t s t s ps ps A A' c c' w hk.tb hk.sb hk.tb hk.sb hk.psb hk.psb hk.n hP hc hP' hc'
  rwa [decide_eq_true rfl] at h
set_option maxRecDepth 100000 in
set_option maxHeartbeats 2000000 in
theorem right_great (s : ByteArray) (w : World) (hs : 3000 < s.size) : Calls Try.prog 6 #[.string s] w fun e w' => e = .returned (.bool true) ∧ Below w.heap.size w w' := by
  go_enter Try.func6, Try.ntmps6
  go_wp2_with (first | (go_at_call 8; ((with_reducible refine (alive_any _).mono ?_); rintro e w1 ⟨rfl, hB1⟩; have HB1 := Lib.hid hB1; clear hB1)))
  go_ret
  exact ⟨rfl, HB1.out⟩
set_option maxRecDepth 100000 in
set_option maxHeartbeats 2000000 in
theorem right_none (l : List Int) (w : World) (hby : Bytes l) (hl : l.length ≤ 3000) (hr : readK l = none) : Calls Try.prog 6 #[.string (St l)] w fun e w' => e = .returned (.bool true) ∧ Below w.heap.size w w' := by
  have HR := Lib.hid (fun W => read_any l W hby (by omega))
  rw [hr] at HR
  unfold ReadEnds at HR
  simp only at HR
  have hsz := St_size l
  generalize St l = s at *
  have hs : s.size ≤ 3000 := by omega
  clear hsz hby hl hr
  go_enter Try.func6, Try.ntmps6
  go_wp2_with (first
    | (go_at_call 9; ((with_reducible refine (HR.out _).mono ?_); rintro e w1 ⟨rfl, hB⟩; have HB1 := Lib.hid hB; clear hB))
    | (go_at_call 8; ((with_reducible refine (alive_any _).mono ?_); rintro e w2 ⟨rfl, hB⟩; have HF2 := Lib.hid (blk_below (blk_new w1 _) hB); have HB2 := Lib.hid (below_then (HB1.out.alloc HB1.out.size _) (HB1.out.alloc HB1.out.size _).size hB); have k0 : w2.cell? ⟨w1.heap.size, 0, none⟩ = some (.string ⟨#[]⟩) := (blk_cell HF2.out 0).trans rfl; have k1 : w2.cell? ⟨w1.heap.size, 1, none⟩ = some (.string ⟨#[]⟩) := (blk_cell HF2.out 1).trans rfl; have k2 : w2.cell? ⟨w1.heap.size, 2, none⟩ = some (.slice none 0 0) := (blk_cell HF2.out 2).trans rfl; clear hB))
    | (go_at_call 11; ((with_reducible refine (same_none _).mono ?_); rintro e w3 ⟨rfl, hB⟩; have HB3 := Lib.hid (below_then HB2.out HB2.out.size hB); clear hB)))
  go_ret
  exact ⟨rfl, HB3.out⟩
set_option maxRecDepth 100000 in
set_option maxHeartbeats 2000000 in
theorem right_some (l t s : List Int) (ps : List Pm) (w : World) (hby : Bytes l) (hl : l.length ≤ 3000) (hr : readK l = some (t, s, ps)) : Calls Try.prog 6 #[.string (St l)] w fun e w' => e = .returned (.bool true) ∧ Below w.heap.size w w' := by
  have HR := Lib.hid (fun W => read_any l W hby (by omega))
  have hR := readK_right hr
  rw [hr] at HR
  have hri := right_is hR
  have hk := hri.kok
  have hwl : (writeL t s ps).length ≤ 10000 := by have h := write_len hri ps.length; rwa [List.take_length] at h
  have HR2 := Lib.hid (fun W => read_any (writeL t s ps) W (write_bytes hk) (by omega))
  have hback : readK (writeL t s ps) = some (t, s, ps) := by
    have h := readK_back (pad := []) (r := []) hR (fun c hc => by cases hc) tail_none
    simpa using h
  rw [hback] at HR2
  unfold ReadEnds at HR HR2
  simp only at HR HR2
  have HW := Lib.hid (fun W A c hP hc => write_yes t s ps A c W hk hP hc hR)
  have HI := Lib.hid (fun (W : World) (A : Option Addr) (c : Nat) (hP : PRow W A ps) (hc : ps.length ≤ c) => by
    have h := right_any t s ps A c W hk hP hc
    rw [hR] at h
    exact h)
  have HS := Lib.hid (fun A A' c c' W hP hc hP' hc' => same_yes t s ps A A' c c' W hk hP hc hP' hc')
  have hsz := St_size l
  generalize St l = z at *
  have hs : z.size ≤ 3000 := by omega
  clear hsz hby hl hr hR hri hk hback hwl
  generalize St (writeL t s ps) = x at *
  generalize St t = st at *
  generalize St s = ss at *
  go_enter Try.func6, Try.ntmps6
  go_wp2_with (first
    | (go_at_call 9; ((with_reducible refine (HR.out _).mono ?_); rintro e w1 ⟨v, rfl, hO, hB⟩; obtain ⟨A, c, rfl, hc, hPR⟩ := hO.reads; have HP1 := Lib.hid hPR; have HB1 := Lib.hid hB; have HC := Lib.hid hc; clear hO hPR hB hc))
    | (go_at_call 13; ((with_reducible refine (HW.out _ A c (HP1.out.alloc_ _) HC.out).mono ?_); rintro e w2 ⟨rfl, hB⟩; have HF2 := Lib.hid (blk_below (blk_new w1 _) hB); have HP2 := Lib.hid ((HP1.out.alloc_ _).below hB); have HB2 := Lib.hid (below_then (HB1.out.alloc HB1.out.size _) (HB1.out.alloc HB1.out.size _).size hB); clear hB))
    | (go_at_call 9; ((with_reducible refine (HR2.out _).mono ?_); rintro e w3 ⟨v, rfl, hO, hB⟩; obtain ⟨A2, c2, rfl, hc, hPR⟩ := hO.reads; have HQ3 := Lib.hid hPR; have HC2 := Lib.hid hc; have HF3 := Lib.hid (blk_below HF2.out hB); have HP3 := Lib.hid (HP2.out.below hB); have HB3 := Lib.hid (below_then HB2.out HB2.out.size hB); clear hO hPR hB hc))
    | (go_at_call 8; ((with_reducible refine (alive_any _).mono ?_); rintro e w4 ⟨rfl, hB⟩; have HF4 := Lib.hid (blk_below (blk_alloc HF3.out _) hB); have HG4 := Lib.hid (blk_below (blk_new w3 _) hB); have HP4 := Lib.hid ((HP3.out.alloc_ _).below hB); have HQ4 := Lib.hid ((HQ3.out.alloc_ _).below hB); have HB4 := Lib.hid (below_then (HB3.out.alloc HB3.out.size _) (HB3.out.alloc HB3.out.size _).size hB); have k0 : w4.cell? ⟨w1.heap.size, 0, none⟩ = some (.string st) := (blk_cell HF4.out 0).trans rfl; have k1 : w4.cell? ⟨w1.heap.size, 1, none⟩ = some (.string ss) := (blk_cell HF4.out 1).trans rfl; have k2 : w4.cell? ⟨w1.heap.size, 2, none⟩ = some (.slice A ps.length c) := (blk_cell HF4.out 2).trans rfl; clear hB))
    | (go_at_call 17; ((with_reducible refine (HI.out _ A c HP4.out HC.out).mono ?_); rintro e w5 ⟨rfl, hB⟩; have HF5 := Lib.hid (blk_below HF4.out hB); have HG5 := Lib.hid (blk_below HG4.out hB); have HP5 := Lib.hid (HP4.out.below hB); have HQ5 := Lib.hid (HQ4.out.below hB); have HB5 := Lib.hid (below_then HB4.out HB4.out.size hB); have m0 : w5.cell? ⟨w1.heap.size, 0, none⟩ = some (.string st) := (blk_cell HF5.out 0).trans rfl; have m1 : w5.cell? ⟨w1.heap.size, 1, none⟩ = some (.string ss) := (blk_cell HF5.out 1).trans rfl; have m2 : w5.cell? ⟨w1.heap.size, 2, none⟩ = some (.slice A ps.length c) := (blk_cell HF5.out 2).trans rfl; have n0 : w5.cell? ⟨w3.heap.size, 0, none⟩ = some (.string st) := (blk_cell HG5.out 0).trans rfl; have n1 : w5.cell? ⟨w3.heap.size, 1, none⟩ = some (.string ss) := (blk_cell HG5.out 1).trans rfl; have n2 : w5.cell? ⟨w3.heap.size, 2, none⟩ = some (.slice A2 ps.length c2) := (blk_cell HG5.out 2).trans rfl; clear hB k0 k1 k2))
    | (go_at_call 11; ((with_reducible refine (HS.out A A2 c c2 _ HP5.out HC.out HQ5.out HC2.out).mono ?_); rintro e w6 ⟨rfl, hB⟩; have HB6 := Lib.hid (below_then HB5.out HB5.out.size hB); clear hB)))
  go_ret
  exact ⟨rfl, HB6.out⟩
theorem right_law (s : ByteArray) (w : World) (hs0 : s.size ≤ 140737488351232) : Calls Try.prog 6 #[.string s] w fun e w' => e = .returned (.bool true) ∧ Below w.heap.size w w' := by
  by_cases hs : 3000 < s.size
  · exact right_great s w hs
  · obtain ⟨l, hb, rfl⟩ := st_of s
    rw [St_size] at hs
    rcases hr : readK l with _ | ⟨t, s, ps⟩
    · exact right_none l w hb (by omega) hr
    · exact right_some l t s ps w hb (by omega) hr
end Go.Proofs.Ytdnehnjcbdkgcaa
