/- The law CharsetWide. -/
import Derived.Test.YtpbgpbblbohmgaaChLA
import Derived.Deep.QuietTactic
import Derived.BigQuiet
import Derived.IntWalk
namespace Go.Proofs.Ytpbgpbblbohmgaa
open Go.RowKit Go.Proofs.YtpbgpbblbohmgaaW.PrintWords

def wlen : List Int → Nat
  | [] => 0
  | p :: t => (if p < 65536 then 2 else 4) + wlen t
theorem wlen_snoc (a : List Int) (p : Int) : wlen (a ++ [p]) = wlen a + if p < 65536 then 2 else 4 := by
  induction a with
  | nil => simp [wlen]
  | cons q t ih => simp only [List.cons_append, wlen, ih]; omega
theorem wlen_le (a : List Int) : wlen a ≤ 4 * a.length := by
  induction a with
  | nil => simp [wlen]
  | cons q t ih => simp only [wlen, List.length_cons]; split <;> omega
theorem encF_wlen {f : Int} (hf : Wide f) : ∀ ps, (encF f ps).1.length = wlen ps
  | [] => rfl
  | p :: t => by
    rw [encF_some (writeV_wide hf), wlen]
    simp only [joinD, List.length_append, encF_wlen hf t]
    split
    · rw [put2_len]
    · rw [List.length_append, put2_len, put2_len]
/-- The same, each two turned. -/
inductive Sw : List Int → List Int → Prop
  | nil : Sw [] []
  | two (x y : Int) {a b : List Int} (h : Sw a b) : Sw (x :: y :: a) (y :: x :: b)
theorem Sw.append {a b c d : List Int} (h : Sw a b) (k : Sw c d) : Sw (a ++ c) (b ++ d) := by
  induction h with
  | nil => exact k
  | two x y _ ih => exact .two x y ih
theorem Sw.rd_ {a b : List Int} (h : Sw a b) : ∀ j : Nat, 2 * j + 1 < a.length → rd a ((2 * j : Nat) : Int) = rd b ((2 * j + 1 : Nat) : Int) ∧ rd a ((2 * j + 1 : Nat) : Int) = rd b ((2 * j : Nat) : Int) := by
  induction h with
  | nil => intro j hj; simp at hj
  | two x y h ih =>
    intro j hj
    rcases j with _ | j
    · exact ⟨rfl, rfl⟩
    · have := ih j (by simp only [List.length_cons] at hj; omega)
      have s1 : ∀ (u v : Int) (c : List Int) (n : Nat), rd (u :: v :: c) ((n + 2 : Nat) : Int) = rd c (n : Int) := fun u v c n => by
        simp only [rd, Int.toNat_natCast, List.getD_cons_succ]
      rw [show 2 * (j + 1) = 2 * j + 2 by omega, show 2 * j + 2 + 1 = (2 * j + 1) + 2 by omega, s1, s1, s1, s1]
      exact this
theorem Sw.len {a b : List Int} (h : Sw a b) : a.length = b.length ∧ a.length % 2 = 0 := by
  induction h with
  | nil => exact ⟨rfl, rfl⟩
  | two x y _ ih => simp only [List.length_cons]; omega
theorem put2_sw (u : Int) : Sw (put2 u false) (put2 u true) := .two _ _ .nil
theorem enc_sw : ∀ ps, Sw (encF 7 ps).1 (encF 8 ps).1
  | [] => .nil
  | p :: t => by
    rw [encF_some (writeV_wide (f := 7) (.inr (.inl rfl))), encF_some (writeV_wide (f := 8) (.inr (.inr rfl)))]
    show Sw (_ ++ (encF 7 t).1) (_ ++ (encF 8 t).1)
    refine Sw.append ?_ (enc_sw t)
    rw [show ((7 : Int) == 8) = false from rfl, show ((8 : Int) == 8) = true from rfl]
    by_cases h : p < 65536
    · rw [if_pos h, if_pos h]; exact put2_sw p
    · rw [if_neg h, if_neg h]; exact (put2_sw _).append (put2_sw _)
theorem enc_six : ∀ ps, encF 6 ps = encF 7 ps
  | [] => rfl
  | p :: t => by
    rw [encF_some (writeV_wide (f := 7) (.inr (.inl rfl))), encF_some (writeV_wide (f := 6) (.inl rfl)), enc_six t]; rfl
theorem form_be : formV ⟨#[117, 116, 102, 45, 49, 54, 98, 101]⟩ = 7 := by decide +kernel
theorem form_le : formV ⟨#[117, 116, 102, 45, 49, 54, 108, 101]⟩ = 8 := by decide +kernel
theorem form_16 : formV ⟨#[117, 116, 102, 45, 49, 54]⟩ = 6 := by decide +kernel
theorem wide_plain (ps : List Int) (hp : allPt ps) : encodeV ⟨#[117, 116, 102, 45, 49, 54, 98, 101]⟩ (encB ps) = ((encF 7 ps).1, 0, 0) ∧ encodeV ⟨#[117, 116, 102, 45, 49, 54, 108, 101]⟩ (encB ps) = ((encF 8 ps).1, 0, 0) ∧
    encodeV ⟨#[117, 116, 102, 45, 49, 54]⟩ (encB ps) = (254 :: 255 :: (encF 7 ps).1, 0, 0) := by
  refine ⟨?_, ?_, ?_⟩
  · have h := encode_of (s := ⟨#[117, 116, 102, 45, 49, 54, 98, 101]⟩) hp (by rw [form_be]; decide) (by rw [form_be]; exact (dbl_enc (f := 7) (.inr (.inl rfl)) ps hp).1)
    rw [form_be] at h; exact h
  · have h := encode_of (s := ⟨#[117, 116, 102, 45, 49, 54, 108, 101]⟩) hp (by rw [form_le]; decide) (by rw [form_le]; exact (dbl_enc (f := 8) (.inr (.inr rfl)) ps hp).1)
    rw [form_le] at h; exact h
  · have h := encode_of (s := ⟨#[117, 116, 102, 45, 49, 54]⟩) hp (by rw [form_16]; decide) (by rw [form_16]; exact (dbl_enc (f := 6) (.inl rfl) ps hp).1)
    rw [form_16, enc_six] at h; exact h
set_option maxRecDepth 100000 in
set_option maxHeartbeats 1000000 in
theorem wide_early (A : Option Addr) (n c : Nat) (w : World) (hn : n ≤ 9223372036854775807) (h : 1000 < n) :
    Calls Try.prog 6 #[.slice A n c] w fun e w' => e = .returned (.bool true) ∧ Below w.heap.size w w' := by
  go_enter Try.func6, Try.ntmps6
  go_wp2_with (first | (go_at_call 9; ((with_reducible refine (alive_any _).mono ?_); rintro e w1 ⟨rfl, hB1⟩; have HB1 := Lib.hid hB1; clear hB1)))
  go_ret
  exact ⟨rfl, HB1.out⟩
set_option maxRecDepth 100000 in
set_option maxHeartbeats 1000000 in
theorem wide_bad (A : Option Addr) (l : List Int) (c : Nat) (w : World) (hr : ReadsInt w .u8 A l.length l) (hby : Bytes l) (hc : l.length ≤ c) (hl : l.length ≤ 1000) (hv : (ptsV l).2.2 = 20) :
    Calls Try.prog 6 #[.slice A l.length c] w fun e w' => e = .returned (.bool true) ∧ Below w.heap.size w w' := by
  have HC := Lib.hid (points_any A l c w hr hby hc (by omega))
  generalize ptsV l = r at *
  obtain ⟨ps, at_, cd⟩ := r
  simp only at hv
  subst hv
  clear hr hby
  go_enter Try.func6, Try.ntmps6
  go_wp2_with (first
    | (go_at_call 15; ((with_reducible refine HC.out.mono ?_); rintro e w1 ⟨v, rfl, hO, hB⟩; have HB1 := Lib.hid (below_alloc hB (.cells #[.int .i64 at_, .int .i64 20] 26)); clear hO hB))
    | (go_at_call 9; ((with_reducible refine (alive_any _).mono ?_); rintro e w2 ⟨rfl, hB2⟩; have HB2 := Lib.hid (below_then HB1.out HB1.out.size hB2); clear hB2)))
  go_ret
  exact ⟨rfl, HB2.out⟩
set_option maxRecDepth 100000 in
set_option maxHeartbeats 8000000 in
theorem wide_ok (A : Option Addr) (l ps : List Int) (c : Nat) (w : World) (hr : ReadsInt w .u8 A l.length l) (hby : Bytes l) (hc : l.length ≤ c) (hl : l.length ≤ 1000) (hp : allPt ps) (hle : l = encB ps) (hv : ptsV l = (ps, 0, 0)) :
    Calls Try.prog 6 #[.slice A l.length c] w fun e w' => e = .returned (.bool true) ∧ Below w.heap.size w w' := by
  have HC := Lib.hid (points_any A l c w hr hby hc (by omega))
  rw [hv] at HC
  obtain ⟨e1, e2, e3⟩ := wide_plain ps hp
  rw [← hle] at e1 e2 e3
  have hpl : ps.length ≤ l.length := by
    have e : (ptsV l).1.length ≤ l.length := by rw [ptsV_res]; exact resV_len (dec_len l.length l)
    rw [hv] at e; exact e
  have HR := Lib.hid hr
  have HE1 := Lib.hid (fun W h => encode_at ⟨#[117, 116, 102, 45, 49, 54, 98, 101]⟩ A l l.length c _ W h hby hc (by decide) (by omega) e1)
  have HE2 := Lib.hid (fun W h => encode_at ⟨#[117, 116, 102, 45, 49, 54, 108, 101]⟩ A l l.length c _ W h hby hc (by decide) (by omega) e2)
  have HE3 := Lib.hid (fun W h => encode_at ⟨#[117, 116, 102, 45, 49, 54]⟩ A l l.length c _ W h hby hc (by decide) (by omega) e3)
  have HSW := Lib.hid (enc_sw ps)
  have HLA := Lib.hid (encF_wlen (f := 7) (.inr (.inl rfl)) ps)
  have HWL := Lib.hid (wlen_le ps)
  obtain ⟨d, hd⟩ : ∃ d, (254 :: 255 :: (encF 7 ps).1 : List Int) = d := ⟨_, rfl⟩
  have HDD : Hid (d.drop 2 = (encF 7 ps).1) := Lib.hid (by rw [← hd]; rfl)
  have HDL : Hid (d.length = (encF 7 ps).1.length + 2) := Lib.hid (by rw [← hd]; rfl)
  rw [hd] at HE3
  clear hd
  generalize (encF 7 ps).1 = a at *
  generalize (encF 8 ps).1 = b at *
  have hpl2 : ps.length ≤ 1000 := by omega
  clear hr hby e1 e2 e3 hle hv hp hpl
  go_enter Try.func6, Try.ntmps6
  go_wp2_with (first
    | (go_at_call 15; ((with_reducible refine HC.out.mono ?_); rintro e w1 ⟨v, rfl, hO, hB⟩; obtain ⟨A1, c1, rfl, hc1, hR1⟩ := (hO.alloc (.cells #[.int .i64 0, .int .i64 0] 26)).reads; have HR1 : Hid (ReadsInt (w1.alloc (.cells #[.int .i64 0, .int .i64 0] 26)) .i32 A1 ps.length ps) := Lib.hid hR1; have HB1 := Lib.hid (below_alloc hB (.cells #[.int .i64 0, .int .i64 0] 26)); clear hO hB hR1 hc1))) 
  go_loop [5, 6] (fun s5 s6 => ∃ k : Nat, k ≤ ps.length ∧ s6 = .int .i64 k ∧ s5 = .int .i64 (wlen (ps.take k) : Nat)) (fun _ s6 => ps.length - (intOf s6).toNat)
  case atStart => exact ⟨0, Nat.zero_le _, rfl, rfl⟩
  case round =>
    obtain ⟨k, hk, rfl, rfl⟩ := hrel
    by_cases hlt : k < ps.length
    · obtain ⟨ad, rfl, hcell⟩ := HR1.out.at_ (k : Int) (by omega) (by omega)
      simp only [Int.toNat_natCast] at hcell
      have hts := take_succ_rd ps k hlt
      have HTS := Lib.hid (wlen_snoc (ps.take k) (rd ps (k : Int)))
      rw [← hts] at HTS
      have hwb := wlen_le (ps.take k)
      have hwk : (ps.take k).length ≤ 1000 := by have := List.length_take_le k ps; omega
      have hw4 : wlen (ps.take k) ≤ 4000 := by omega
      generalize rd ps (k : Int) = p at *
      generalize wlen (ps.take k) = n at *
      clear hts hwb hwk
      by_cases hpp : 65536 ≤ p
      · have HT2 : Hid (wlen (ps.take (k + 1)) = n + 4) := Lib.hid (by rw [HTS.out, if_neg (by omega)])
        go_wp2
        go_round
        case rel => exact ⟨k + 1, hlt, by go_num, by rw [HT2.out]; go_num⟩
        case measure => simp [intOf]; omega
      · have HT2 : Hid (wlen (ps.take (k + 1)) = n + 2) := Lib.hid (by rw [HTS.out, if_pos (by omega)])
        go_wp2
        go_round
        case rel => exact ⟨k + 1, hlt, by go_num, by rw [HT2.out]; go_num⟩
        case measure => simp [intOf]; omega
    · obtain rfl : k = ps.length := by omega
      rw [List.take_length]
      have hwl : a.length ≤ 4000 := by have := HWL.out; have := HLA.out; omega
      rw [← HLA.out]
      have hbl : b.length = a.length := HSW.out.len.1.symm
      have HBLA := Lib.hid hbl
      have bb1 : ((b.length : Int) != (a.length : Int)) = false := bne_eq_false_iff_eq.mpr (by omega)
      have bd1 : ((d.length : Int) != (a.length : Int) + 2) = false := bne_eq_false_iff_eq.mpr (by have := HDL.out; omega)
      clear hbl
      go_wp2_with (first
        | (go_at_call 14; ((with_reducible refine (HE1.out _ (HR.out.below HB1.out)).mono ?_); rintro e w2 ⟨v2, rfl, hO2, hB2⟩; obtain ⟨A2, c2, rfl, hc2, hR2⟩ := (hO2.alloc (.cells #[.int .i64 0, .int .i64 0] 26)).reads; have HR2 : Hid (ReadsInt (w2.alloc (.cells #[.int .i64 0, .int .i64 0] 26)) .u8 A2 a.length a) := Lib.hid hR2; have HX2 := Lib.hid (below_alloc hB2 (.cells #[.int .i64 0, .int .i64 0] 26)); have HB2 := Lib.hid (below_then HB1.out HB1.out.size HX2.out); have HG2 := Lib.hid (heap_alloc_new w2 (.cells #[.int .i64 0, .int .i64 0] 26)); clear hO2 hB2 hR2 hc2))
        | (go_at_call 14; ((with_reducible refine (HE2.out _ (HR.out.below HB2.out)).mono ?_); rintro e w3 ⟨v3, rfl, hO3, hB3⟩; obtain ⟨A3, c3, rfl, hc3, hR3⟩ := (hO3.alloc (.cells #[.int .i64 0, .int .i64 0] 26)).reads; have HR3 : Hid (ReadsInt (w3.alloc (.cells #[.int .i64 0, .int .i64 0] 26)) .u8 A3 b.length b) := Lib.hid hR3; have HX3 := Lib.hid (below_alloc hB3 (.cells #[.int .i64 0, .int .i64 0] 26)); have HB3 := Lib.hid (below_then HB2.out HB2.out.size HX3.out); have HR2b := Lib.hid (HR2.out.below HX3.out); have HG2b := Lib.hid (blk_below HG2.out HX3.out); have HG3 := Lib.hid (heap_alloc_new w3 (.cells #[.int .i64 0, .int .i64 0] 26)); clear hO3 hB3 hR3 hc3))
        | (go_at_call 14; ((with_reducible refine (HE3.out _ (HR.out.below HB3.out)).mono ?_); rintro e w4 ⟨v4, rfl, hO4, hB4⟩; obtain ⟨A4, c4, rfl, hc4, hR4⟩ := (hO4.alloc (.cells #[.int .i64 0, .int .i64 0] 26)).reads; have HR4 : Hid (ReadsInt (w4.alloc (.cells #[.int .i64 0, .int .i64 0] 26)) .u8 A4 d.length d) := Lib.hid hR4; have HC4 : Hid (d.length ≤ c4) := Lib.hid hc4; have HX4 := Lib.hid (below_alloc hB4 (.cells #[.int .i64 0, .int .i64 0] 26)); have HB4 := Lib.hid (below_then HB3.out HB3.out.size HX4.out); have HR2c := Lib.hid (HR2b.out.below HX4.out); have HR3c := Lib.hid (HR3.out.below HX4.out); have HG2c := Lib.hid (blk_below HG2b.out HX4.out); have HG3c := Lib.hid (blk_below HG3.out HX4.out); have HG4 := Lib.hid (heap_alloc_new w4 (.cells #[.int .i64 0, .int .i64 0] 26)); clear hO4 hB4 hR4 hc4)))
      have HG2d := Lib.hid (blk_below HG2c.out (Below.refl _ _))
      generalize (w4.alloc (.cells #[.int .i64 0, .int .i64 0] 26)) = w5 at *
      have k2 : w5.cell? ⟨w2.heap.size, 1, none⟩ = some (.int .i64 0) := (blk_cell HG2c.out 1).trans rfl
      have k3 : w5.cell? ⟨w3.heap.size, 1, none⟩ = some (.int .i64 0) := (blk_cell HG3c.out 1).trans rfl
      have k4 : w5.cell? ⟨w4.heap.size, 1, none⟩ = some (.int .i64 0) := (blk_cell HG4.out 1).trans rfl
      obtain ⟨i0, hi0, _, hsz, _⟩ := info_parts infoU8
      obtain ⟨A5, hcut0, hA5, hC5⟩ := print_drop_of (P := Try.prog) (Value.int .u8) (0 : Int) 22 5 .i64 Try.underlying22 hi0 hsz A4 c4 d (2 : Int) (by omega) (by have := HDL.out; omega) HC4.out
      rw [show ((2 : Int)).toNat = 2 from rfl, HDD.out] at hcut0 hA5 hC5
      have HR5 : Hid (ReadsInt w5 .u8 A5 a.length a) := Lib.hid (hA5 _ HR4.out)
      have kc1 : ∀ k, (convert 22 9 (.slice A5 a.length (c4 - 2))).run Try.prog (w5.drewN k) = .ok (.string (strOfNums a)) (w5.drewN k) := fun k => string_of_reads Try.underlying22 Try.underlying5 Try.underlying9 (HR5.out.drewN k)
      have kc2 : ∀ k, (convert 22 9 (.slice A2 a.length c2)).run Try.prog (w5.drewN k) = .ok (.string (strOfNums a)) (w5.drewN k) := fun k => string_of_reads Try.underlying22 Try.underlying5 Try.underlying9 (HR2c.out.drewN k)
      clear hA5 hC5 hi0 hsz
      go_quiet (fail)
      clear kc1 kc2 k2 k3 k4 hcut0 bb1 bd1
      go_wp2
      go_loopw [13] (fun s13 wr => ∃ i : Nat, i ≤ a.length ∧ i % 2 = 0 ∧ s13 = .int .i64 i ∧ Hid (∃ m, wr = w5.drewN m)) (fun s13 _ => a.length - (intOf s13).toNat)
      case atStart => exact ⟨0, Nat.zero_le _, rfl, rfl, Lib.hid ⟨_, rfl⟩⟩
      case round =>
        obtain ⟨i, hi, hi2, rfl, HM⟩ := hrel
        obtain ⟨m, hm⟩ := HM.out
        subst hm
        clear HM
        by_cases hlt : i + 1 < a.length
        · have hs := HSW.out.rd_ (i / 2) (by omega)
          rw [show 2 * (i / 2) = i by omega] at hs
          obtain ⟨ad2, h2, ca0⟩ := HR2c.out.at_ (i : Int) (by omega) (by omega)
          obtain ⟨ad2', h2', ca1⟩ := HR2c.out.at_ ((i + 1 : Nat) : Int) (by omega) (by omega)
          obtain ⟨ad3, h3, cb0⟩ := HR3c.out.at_ (i : Int) (by omega) (by have := HBLA.out; omega)
          obtain ⟨ad3', h3', cb1⟩ := HR3c.out.at_ ((i + 1 : Nat) : Int) (by omega) (by have := HBLA.out; omega)
          rw [h2] at h2'
          rw [h3] at h3'
          injection h2' with h2'
          injection h3' with h3'
          subst h2' h3' h2 h3
          simp only [Int.toNat_natCast] at ca0 ca1 cb0 cb1
          have ea : ∀ ad : Addr, ad.add (i + 1) = ⟨ad.block, ad.off + (i + 1), none⟩ := fun ad => by simp [Addr.add]
          rw [ea] at ca1 cb1
          rw [← hs.2] at cb0
          rw [← hs.1] at cb1
          generalize rd a (i : Int) = p at *
          generalize rd a ((i + 1 : Nat) : Int) = q at *
          have hbl : i + 1 < b.length := by have := HBLA.out; omega
          have s1 : IntKind.i64.wrap ((i : Int) + 1) = (i : Int) + 1 := IntWalk.i64_in _ (by omega)
          have s2 : 0 ≤ (i : Int) + 1 := by omega
          have s3 : ((i : Int) + 1).toNat = i + 1 := by omega
          have d1 : (i : Int) < (a.length : Int) := by omega
          have d2 : (i : Int) + 1 < (a.length : Int) := by omega
          have d3 : (i : Int) < (b.length : Int) := by omega
          have d4 : (i : Int) + 1 < (b.length : Int) := by omega
          clear hs hbl ea
          go_wp2
          go_quiet (fail)
          go_wp2
          go_roundw
          case rel => exact ⟨i + 2, by omega, by omega, by go_num, Lib.hid ⟨_, rfl⟩⟩
          case measure => simp [intOf]; omega
        · have hlt' : ¬ (i : Int) + 1 < (a.length : Int) := by omega
          have HBm := Lib.hid (pw_below_drewN HB4.out m)
          go_wp2_with (first
            | (go_at_call 9; ((with_reducible refine (alive_any _).mono ?_); rintro e w6 ⟨rfl, hB6⟩; have HB6 := Lib.hid (below_then HBm.out HBm.out.size hB6); clear hB6)))
          go_ret
          exact ⟨rfl, HB6.out⟩
theorem wide_law (A : Option Addr) (l : List Int) (c : Nat) (w : World) (hr : ReadsInt w .u8 A l.length l) (wl : ∀ n ∈ l, (Lit.int .u8 n).wf = true) (hc : l.length ≤ c) (_ : l.length * 1 ≤ 140737488351232) :
    Calls Try.prog 6 #[.slice A l.length c] w fun e w' => e = .returned (.bool true) ∧ Below w.heap.size w w' := by
  by_cases h2 : 1000 < l.length
  · exact wide_early A l.length c w hr.2.1 h2
  · have hby := wf_u8 wl
    rcases pts_cases l hby with ⟨ps, hp, hle, hv⟩ | h
    · exact wide_ok A l ps c w hr hby hc (by omega) hp hle hv
    · exact wide_bad A l c w hr hby hc (by omega) h
end Go.Proofs.Ytpbgpbblbohmgaa
