/- The law KindBack, walked. -/
import Derived.Test.YtdnehnjcbdkgcaaKO
namespace Go.Proofs.Ytdnehnjcbdkgcaa
set_option linter.unusedVariables false
set_option linter.unusedSimpArgs false
open Go.RowKit Go.Shelf Go.Proofs.YtdnehnjcbdkgcaaW.PrintWords PKindReads

set_option maxRecDepth 100000 in
set_option maxHeartbeats 2000000 in
theorem back_great (t s : List Int) (ps : List Pm) (A : Option Addr) (c : Nat) (b : Int) (w : World) (hk : GOk t s ps) (hP : PRow w A ps) (hc : ps.length ≤ c) (hg : greatB t s ps = true) :
    Calls Try.prog 5 #[.agg #[.string (St t), .string (St s), .slice A ps.length c], .int .u8 b] w fun e w' => e = .returned (.bool true) ∧ Below w.heap.size w w' := by
  have HG := Lib.hid (fun (W : World) (hP : PRow W A ps) => great_any t s ps A c W hk hP hc)
  rw [hg] at HG
  have HP := Lib.hid hP
  clear hk hP hg
  generalize St t = st at *
  generalize St s = ss at *
  go_enter Try.func5, Try.ntmps5
  go_wp2_with (first
    | (go_at_call 12; ((with_reducible refine (HG.out _ (HP.out.alloc_ _)).mono ?_); rintro e w1 ⟨rfl, hB⟩; have HB1 := Lib.hid (below_then ((Below.refl w.heap.size w).alloc (Nat.le_refl _) _) ((Below.refl w.heap.size w).alloc (Nat.le_refl _) _).size hB); clear hB))
    | (go_at_call 8; ((with_reducible refine (alive_any _).mono ?_); rintro e w2 ⟨rfl, hB⟩; have HB2 := Lib.hid (below_then HB1.out HB1.out.size hB); clear hB)))
  go_ret
  exact ⟨rfl, HB2.out⟩
set_option maxRecDepth 100000 in
set_option maxHeartbeats 2000000 in
theorem back_no (t s : List Int) (ps : List Pm) (A : Option Addr) (c : Nat) (b : Int) (w : World) (hk : GOk t s ps) (hP : PRow w A ps) (hc : ps.length ≤ c) (hg : greatB t s ps = false) (hr : rightB t s ps = false) :
    Calls Try.prog 5 #[.agg #[.string (St t), .string (St s), .slice A ps.length c], .int .u8 b] w fun e w' => e = .returned (.bool true) ∧ Below w.heap.size w w' := by
  have hk2 := hk.kok hg
  have HG := Lib.hid (fun (W : World) (hP : PRow W A ps) => great_any t s ps A c W hk hP hc)
  rw [hg] at HG
  have HW := Lib.hid (fun (W : World) (hP : PRow W A ps) => write_no t s ps A c W hk2 hP hc hr)
  have HI := Lib.hid (fun (W : World) (hP : PRow W A ps) => right_any t s ps A c W hk2 hP hc)
  rw [hr] at HI
  have HP := Lib.hid hP
  clear hk hP hg hk2 hr
  generalize St t = st at *
  generalize St s = ss at *
  go_enter Try.func5, Try.ntmps5
  go_wp2_with (first
    | (go_at_call 12; ((with_reducible refine (HG.out _ (HP.out.alloc_ _)).mono ?_); rintro e w1 ⟨rfl, hB⟩; have HB1 := Lib.hid (below_then ((Below.refl w.heap.size w).alloc (Nat.le_refl _) _) ((Below.refl w.heap.size w).alloc (Nat.le_refl _) _).size hB); have HF1 := Lib.hid (blk_below (blk_new w _) hB); have HP1 := Lib.hid ((HP.out.alloc_ _).below hB); have k0 : w1.cell? ⟨w.heap.size, 0, none⟩ = some (.string st) := (blk_cell HF1.out 0).trans rfl; have k1 : w1.cell? ⟨w.heap.size, 1, none⟩ = some (.string ss) := (blk_cell HF1.out 1).trans rfl; have k2 : w1.cell? ⟨w.heap.size, 2, none⟩ = some (.slice A ps.length c) := (blk_cell HF1.out 2).trans rfl; clear hB))
    | (go_at_call 13; ((with_reducible refine (HW.out _ HP1.out).mono ?_); rintro e w2 ⟨rfl, hB⟩; have HF2 := Lib.hid (blk_below HF1.out hB); have HP2 := Lib.hid (HP1.out.below hB); have HB2 := Lib.hid (below_then HB1.out HB1.out.size hB); clear hB))
    | (go_at_call 8; ((with_reducible refine (alive_any _).mono ?_); rintro e w3 ⟨rfl, hB⟩; have HF3 := Lib.hid (blk_below HF2.out hB); have HP3 := Lib.hid (HP2.out.below hB); have HB3 := Lib.hid (below_then HB2.out HB2.out.size hB); have m0 : w3.cell? ⟨w.heap.size, 0, none⟩ = some (.string st) := (blk_cell HF3.out 0).trans rfl; have m1 : w3.cell? ⟨w.heap.size, 1, none⟩ = some (.string ss) := (blk_cell HF3.out 1).trans rfl; have m2 : w3.cell? ⟨w.heap.size, 2, none⟩ = some (.slice A ps.length c) := (blk_cell HF3.out 2).trans rfl; clear hB))
    | (go_at_call 17; ((with_reducible refine (HI.out _ HP3.out).mono ?_); rintro e w4 ⟨rfl, hB⟩; have HB4 := Lib.hid (below_then HB3.out HB3.out.size hB); clear hB)))
  go_ret
  exact ⟨rfl, HB4.out⟩
theorem and3_all : ∀ b : Fin 256, 0 ≤ bits BinOp.and IntKind.u8 (b.val : Int) 3 ∧ bits BinOp.and IntKind.u8 (b.val : Int) 3 ≤ 3 := by decide +kernel
theorem and3 {b : Int} (h0 : 0 ≤ b) (h1 : b ≤ 255) : ∃ n : Nat, bits BinOp.and IntKind.u8 b 3 = (n : Int) ∧ n ≤ 3 := by
  have h := and3_all ⟨b.toNat, by omega⟩
  rw [show ((b.toNat : Nat) : Int) = b by omega] at h
  exact ⟨(bits BinOp.and IntKind.u8 b 3).toNat, by omega, by omega⟩
theorem pad_blk (n : Nat) : ∀ c ∈ ([32, 9, 32] : List Int).take n, blkC c = true := by
  intro c hc
  have := List.mem_of_mem_take hc
  simp only [List.mem_cons, List.not_mem_nil, or_false] at this
  rcases this with rfl | rfl | rfl <;> rfl
theorem pad_bytes (n : Nat) : Bytes (([32, 9, 32] : List Int).take n) := by
  intro c hc
  have := List.mem_of_mem_take hc
  simp only [List.mem_cons, List.not_mem_nil, or_false] at this
  omega
set_option maxRecDepth 100000 in
set_option maxHeartbeats 2000000 in
theorem back_yes (t s : List Int) (ps : List Pm) (A : Option Addr) (c : Nat) (b : Int) (w : World) (hb0 : 0 ≤ b) (hb1 : b ≤ 255) (hk : GOk t s ps) (hP : PRow w A ps) (hc : ps.length ≤ c) (hg : greatB t s ps = false) (hr : rightB t s ps = true) :
    Calls Try.prog 5 #[.agg #[.string (St t), .string (St s), .slice A ps.length c], .int .u8 b] w fun e w' => e = .returned (.bool true) ∧ Below w.heap.size w w' := by
  have hk2 := hk.kok hg
  have hri := right_is hr
  have hwl : (writeL t s ps).length ≤ 10000 := by have h := write_len hri ps.length; rwa [List.take_length] at h
  have hwb := write_bytes hk2
  obtain ⟨n, hn, hn3⟩ := and3 hb0 hb1
  obtain ⟨pad, hpad⟩ : ∃ pad, ([32, 9, 32] : List Int).take n = pad := ⟨_, rfl⟩
  have hpb : ∀ c ∈ pad, blkC c = true := by rw [← hpad]; exact pad_blk n
  have hpy : Bytes pad := by rw [← hpad]; exact pad_bytes n
  have hpl : pad.length ≤ 3 := by rw [← hpad, List.length_take]; exact Nat.le_trans (Nat.min_le_left _ _) hn3
  have HX : Hid ((⟨#[32, 9, 32]⟩ : ByteArray).extract 0 n = St pad) := Lib.hid (by rw [show (⟨#[32, 9, 32]⟩ : ByteArray) = St [32, 9, 32] from rfl, St_extract, hpad]; rfl)
  have HG := Lib.hid (fun (W : World) (hP : PRow W A ps) => great_any t s ps A c W hk hP hc)
  rw [hg] at HG
  have HW := Lib.hid (fun (W : World) (hP : PRow W A ps) => write_yes t s ps A c W hk2 hP hc hr)
  have HR1 := Lib.hid (fun W => read_any (writeL t s ps) W hwb (by omega))
  have hback : readK (writeL t s ps) = some (t, s, ps) := by
    have h := readK_back (pad := []) (r := []) hr (fun c hc => by cases hc) tail_none
    simpa using h
  rw [hback] at HR1
  have hcat : St pad ++ St (writeL t s ps) ++ St pad ++ ⟨#[59]⟩ ++ St pad = St (pad ++ (writeL t s ps ++ (pad ++ 59 :: pad))) := by
    rw [show (⟨#[59]⟩ : ByteArray) = St [59] from rfl, St_append, St_append, St_append, St_append]
    simp
  have HR2 := Lib.hid (fun W => read_any (pad ++ (writeL t s ps ++ (pad ++ 59 :: pad))) W (bytes_app hpy (bytes_app hwb (bytes_app hpy (fun x hx => by
    rcases List.mem_cons.1 hx with rfl | hx
    · omega
    · exact hpy x hx)))) (by simp only [List.length_append, List.length_cons]; omega))
  rw [readK_back hr hpb (tail_pad hpb), ← hcat] at HR2
  unfold ReadEnds at HR1 HR2
  simp only at HR1 HR2
  have HS := Lib.hid (fun A A' c c' W hP hc hP' hc' => same_yes t s ps A A' c c' W hk2 hP hc hP' hc')
  have HP := Lib.hid hP
  have HC := Lib.hid hc
  have hz1 := St_size pad
  have hz2 := St_size (writeL t s ps)
  clear hk hP hg hk2 hr hcat hback hri hwb hpb hpy hpad
  generalize St t = st at *
  generalize St s = ss at *
  generalize St (writeL t s ps) = x at *
  generalize St pad = sp at *
  have hx0 := HX.out
  have f1 : (9223372036854775807 < sp.size + x.size) = False := eq_false (by omega)
  have f2 : (9223372036854775807 < sp.size + x.size + sp.size) = False := eq_false (by omega)
  have f3 : (9223372036854775807 < sp.size + x.size + sp.size + 1) = False := eq_false (by omega)
  have f4 : (9223372036854775807 < sp.size + x.size + sp.size + 1 + sp.size) = False := eq_false (by omega)
  clear hz1 hz2 hwl hpl
  go_enter Try.func5, Try.ntmps5
  go_wp2_with (first
    | (go_at_call 12; ((with_reducible refine (HG.out _ (HP.out.alloc_ _)).mono ?_); rintro e w1 ⟨rfl, hB⟩; have HB1 := Lib.hid (below_then ((Below.refl w.heap.size w).alloc (Nat.le_refl _) _) ((Below.refl w.heap.size w).alloc (Nat.le_refl _) _).size hB); have HF1 := Lib.hid (blk_below (blk_new w _) hB); have HP1 := Lib.hid ((HP.out.alloc_ _).below hB); have k0 : w1.cell? ⟨w.heap.size, 0, none⟩ = some (.string st) := (blk_cell HF1.out 0).trans rfl; have k1 : w1.cell? ⟨w.heap.size, 1, none⟩ = some (.string ss) := (blk_cell HF1.out 1).trans rfl; have k2 : w1.cell? ⟨w.heap.size, 2, none⟩ = some (.slice A ps.length c) := (blk_cell HF1.out 2).trans rfl; clear hB))
    | (go_at_call 13; ((with_reducible refine (HW.out _ HP1.out).mono ?_); rintro e w2 ⟨rfl, hB⟩; have HF2 := Lib.hid (blk_below HF1.out hB); have HP2 := Lib.hid (HP1.out.below hB); have HB2 := Lib.hid (below_then HB1.out HB1.out.size hB); clear hB k0 k1 k2))
    | (go_at_call 9; ((with_reducible refine (HR1.out _).mono ?_); rintro e w3 ⟨v, rfl, hO, hB⟩; obtain ⟨A1, c1, rfl, hc1, hPR⟩ := hO.reads; have HF3 := Lib.hid (blk_below HF2.out hB); have HP3 := Lib.hid (HP2.out.below hB); have HQ3 := Lib.hid hPR; have HC1 := Lib.hid hc1; have HB3 := Lib.hid (below_then HB2.out HB2.out.size hB); clear hO hPR hc1 hB))
    | (go_at_call 9; ((with_reducible refine (HR2.out _).mono ?_); rintro e w4 ⟨v, rfl, hO, hB⟩; obtain ⟨A2, c2, rfl, hc2, hPR⟩ := hO.reads; have HF4 := Lib.hid (blk_below (blk_alloc HF3.out _) hB); have HG4 := Lib.hid (blk_below (blk_new w3 _) hB); have HP4 := Lib.hid ((HP3.out.alloc_ _).below hB); have HQ4 := Lib.hid ((HQ3.out.alloc_ _).below hB); have HT4 := Lib.hid hPR; have HC2 := Lib.hid hc2; have HB4 := Lib.hid (below_then (HB3.out.alloc HB3.out.size _) (HB3.out.alloc HB3.out.size _).size hB); clear hO hPR hc2 hB))
    | (go_at_call 8; ((with_reducible refine (alive_any _).mono ?_); rintro e w5 ⟨rfl, hB⟩; have HF5 := Lib.hid (blk_below (blk_alloc HF4.out _) hB); have HG5 := Lib.hid (blk_below (blk_alloc HG4.out _) hB); have HH5 := Lib.hid (blk_below (blk_new w4 _) hB); have HP5 := Lib.hid ((HP4.out.alloc_ _).below hB); have HQ5 := Lib.hid ((HQ4.out.alloc_ _).below hB); have HT5 := Lib.hid ((HT4.out.alloc_ _).below hB); have HB5 := Lib.hid (below_then (HB4.out.alloc HB4.out.size _) (HB4.out.alloc HB4.out.size _).size hB); have k0 : w5.cell? ⟨w.heap.size, 0, none⟩ = some (.string st) := (blk_cell HF5.out 0).trans rfl; have k1 : w5.cell? ⟨w.heap.size, 1, none⟩ = some (.string ss) := (blk_cell HF5.out 1).trans rfl; have k2 : w5.cell? ⟨w.heap.size, 2, none⟩ = some (.slice A ps.length c) := (blk_cell HF5.out 2).trans rfl; have m0 : w5.cell? ⟨w3.heap.size, 0, none⟩ = some (.string st) := (blk_cell HG5.out 0).trans rfl; have m1 : w5.cell? ⟨w3.heap.size, 1, none⟩ = some (.string ss) := (blk_cell HG5.out 1).trans rfl; have m2 : w5.cell? ⟨w3.heap.size, 2, none⟩ = some (.slice A1 ps.length c1) := (blk_cell HG5.out 2).trans rfl; clear hB))
    | (go_at_call 11; ((with_reducible refine (HS.out A1 A c1 c _ HQ5.out HC1.out HP5.out HC.out).mono ?_); rintro e w6 ⟨rfl, hB⟩; have HF6 := Lib.hid (blk_below HF5.out hB); have HH6 := Lib.hid (blk_below HH5.out hB); have HP6 := Lib.hid (HP5.out.below hB); have HT6 := Lib.hid (HT5.out.below hB); have HB6 := Lib.hid (below_then HB5.out HB5.out.size hB); have q0 : w6.cell? ⟨w.heap.size, 0, none⟩ = some (.string st) := (blk_cell HF6.out 0).trans rfl; have q1 : w6.cell? ⟨w.heap.size, 1, none⟩ = some (.string ss) := (blk_cell HF6.out 1).trans rfl; have q2 : w6.cell? ⟨w.heap.size, 2, none⟩ = some (.slice A ps.length c) := (blk_cell HF6.out 2).trans rfl; have r0 : w6.cell? ⟨w4.heap.size, 0, none⟩ = some (.string st) := (blk_cell HH6.out 0).trans rfl; have r1 : w6.cell? ⟨w4.heap.size, 1, none⟩ = some (.string ss) := (blk_cell HH6.out 1).trans rfl; have r2 : w6.cell? ⟨w4.heap.size, 2, none⟩ = some (.slice A2 ps.length c2) := (blk_cell HH6.out 2).trans rfl; clear hB))
    | (go_at_call 11; ((with_reducible refine (HS.out A2 A c2 c _ HT6.out HC2.out HP6.out HC.out).mono ?_); rintro e w7 ⟨rfl, hB⟩; have HB7 := Lib.hid (below_then HB6.out HB6.out.size hB); clear hB)))
  go_ret
  exact ⟨rfl, HB7.out⟩
theorem back_law (t s : List Int) (ps : List Pm) (A : Option Addr) (c : Nat) (b : Int) (w : World) (hP : PRow w A ps) (hc : ps.length ≤ c) (hk : GOk t s ps) (hb : (Lit.int .u8 b).wf = true) :
    Calls Try.prog 5 #[.agg #[.string (St t), .string (St s), .slice A ps.length c], .int .u8 b] w fun e w' => e = .returned (.bool true) ∧ Below w.heap.size w w' := by
  simp only [Lit.wf, Bool.and_eq_true, decide_eq_true_eq] at hb
  have hb2 : 0 ≤ b ∧ b ≤ 255 := ⟨hb.1, hb.2⟩
  rcases hg : greatB t s ps with _ | _
  · rcases hr : rightB t s ps with _ | _
    · exact back_no t s ps A c b w hk hP hc hg hr
    · exact back_yes t s ps A c b w hb2.1 hb2.2 hk hP hc hg hr
  · exact back_great t s ps A c b w hk hP hc hg
end Go.Proofs.Ytdnehnjcbdkgcaa
