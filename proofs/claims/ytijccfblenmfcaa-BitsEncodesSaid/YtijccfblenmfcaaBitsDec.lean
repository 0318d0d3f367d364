/- The package bits: Encode refused; Decode. -/
import Derived.Test.YtijccfblenmfcaaBitsEnc
import Derived.Test.YtijccfblenmfcaaBase2
namespace Go.Proofs.Ytijccfblenmfcaa
open Go.RowKit Go.Shelf Go.Proofs.YtijccfblenmfcaaW.PrintWords

set_option maxRecDepth 100000 in
set_option maxHeartbeats 1000000 in
theorem encode_no (A : Option Addr) (n c0 : Nat) (m c : Int) (w : World) (h : fitsV n m = c) (hc : c = 1 ∨ c = 2) :
    Calls Try.prog 12 #[.slice A n c0, .int .i64 m] w fun e w' => e = .returned (.tuple #[.string ⟨#[]⟩, .int .i64 c]) ∧ Below w.heap.size w w' := by
  have HF := Lib.hid (fits_any (n : Int) m w)
  rw [h] at HF
  clear h
  rcases hc with rfl | rfl
  all_goals
    go_enter Try.func12, Try.ntmps12
    go_wp2_with (first | (go_at_call 23; ((with_reducible refine HF.out.mono ?_); rintro e w' ⟨rfl, rfl⟩)))
    go_ret2
    exact ⟨rfl, Below.refl _ _⟩

/-- A text's bytes and where each stood, its pairs of 13 and 10 left out. -/
def toks : List Int → Int → List (Int × Int)
  | [], _ => []
  | [x], i => [(x, i)]
  | x :: y :: t, i => if x = 13 ∧ y = 10 then toks t (i + 2) else (x, i) :: toks (y :: t) (i + 1)
/-- What is read: bytes, the place, the error. -/
def decT (n : Int) : List (Int × Int) → Nat → Int → Nat → Int → List Int → List Int × Int × Int
  | [], k, _, _, _, out => if k % 4 = 0 then (out, 0, 0) else ([], n, 11)
  | (c, i) :: t, k, v, pads, last, out =>
    if valV c = -1 ∧ c ≠ 61 then ([], i, 10)
    else if (c = 61 ∧ k % 4 < 2) ∨ (c ≠ 61 ∧ 0 < pads) then ([], i, 11)
    else if (k + 1) % 4 = 0 then
      (if rd (out ++ [(v * 64 + if c = 61 then 0 else valV c) / 65536, (v * 64 + if c = 61 then 0 else valV c) / 256 % 256, (v * 64 + if c = 61 then 0 else valV c) % 256]) ((out.length + 3 - (if c = 61 then pads + 1 else pads) : Nat) : Int) ≠ 0 then ([], if c = 61 then last else i, 12)
       else decT n t (k + 1) 0 (if c = 61 then pads + 1 else pads) (if c = 61 then last else i) ((out ++ [(v * 64 + if c = 61 then 0 else valV c) / 65536, (v * 64 + if c = 61 then 0 else valV c) / 256 % 256, (v * 64 + if c = 61 then 0 else valV c) % 256]).take (out.length + 3 - (if c = 61 then pads + 1 else pads))))
    else decT n t (k + 1) (v * 64 + if c = 61 then 0 else valV c) (if c = 61 then pads + 1 else pads) (if c = 61 then last else i) out
def crlf (xs : List Int) (i : Nat) : Bool := decide (rd xs (i : Int) = 13 ∧ i + 1 < xs.length ∧ rd xs ((i + 1 : Nat) : Int) = 10)
theorem toks_skip (xs : List Int) (i : Nat) (j : Int) (h : crlf xs i = true) : toks (xs.drop i) j = toks (xs.drop (i + 2)) (j + 2) := by
  simp only [crlf, decide_eq_true_eq] at h
  obtain ⟨h1, h2, h3⟩ := h
  rw [List.drop_eq_getElem_cons (show i < xs.length by omega), List.drop_eq_getElem_cons h2, toks, if_pos]
  rw [rd_lt xs i (by omega)] at h1
  rw [rd_lt xs (i + 1) h2] at h3
  exact ⟨h1, h3⟩
theorem toks_take (xs : List Int) (i : Nat) (j : Int) (hi : i < xs.length) (h : crlf xs i = false) : toks (xs.drop i) j = (rd xs (i : Int), j) :: toks (xs.drop (i + 1)) (j + 1) := by
  rw [rd_lt xs i hi, List.drop_eq_getElem_cons hi]
  by_cases h2 : i + 1 < xs.length
  · rw [List.drop_eq_getElem_cons h2, toks, if_neg]
    intro h3
    simp only [crlf, decide_eq_false_iff_not] at h
    rw [rd_lt xs i hi, rd_lt xs (i + 1) h2] at h
    exact h ⟨h3.1, h2, h3.2⟩
  · rw [List.drop_eq_nil_of_le (show xs.length ≤ i + 1 by omega)]; rfl
theorem toks_end (xs : List Int) (i : Nat) (j : Int) (hi : xs.length ≤ i) : toks (xs.drop i) j = [] := by
  rw [List.drop_eq_nil_of_le hi]; rfl
def decV (xs : List Int) : List Int × Int × Int := if 2097152 < xs.length then ([], 0, 2) else decT xs.length (toks xs 0) 0 0 0 0 []
def DecPost (w : World) (r : List Int × Int × Int) (e : Ending) (w' : World) : Prop :=
  ∃ v, e = .returned (.tuple #[v, .agg #[.int .i64 r.2.1, .int .i64 r.2.2]]) ∧ ORow .u8 5 w' w.heap.size v r.1 ∧ Below w.heap.size w w'

theorem value_any (c : Int) (w : World) (h0 : 0 ≤ c) (h1 : c ≤ 255) :
    Calls Try.prog 20 #[.int .u8 c] w fun e w' => e = .returned (.tuple #[.int .u32 (if valV c = -1 then 4294967295 else valV c), .bool (!decide (valV c = -1))]) ∧ w = w' := by
  rcases val_cases c h0 h1 with h | ⟨h2, h3, h4⟩
  · simp only [h]; exact value_no c w h
  · have h5 : ¬ valV c = -1 := by omega
    rw [if_neg h5, decide_eq_false h5]; exact value_ok c w h2 h3
theorem val_61 : valV 61 = -1 := by decide +kernel
theorem six_u32 (v d : Int) (h0 : 0 ≤ v) (h1 : v < 262144) (h2 : 0 ≤ d) (h3 : d < 64) : bits BinOp.or IntKind.u32 (v * 64) d = v * 64 + d := or_u32 6 _ _ (by omega) (by omega) (by omega) (by omega) (by omega) (by omega)

set_option maxRecDepth 100000 in
set_option maxHeartbeats 2000000 in
theorem decode_any (s : ByteArray) (w : World) (hs2 : s.size ≤ 2097152) :
    Calls Try.prog 10 #[.string s] w (DecPost w (decV (bytesOf s))) := by
  have HL : Hid ((bytesOf s).length = s.size) := Lib.hid (bytesOf_length s)
  have HV : Hid (decV (bytesOf s) = decT s.size (toks (bytesOf s) 0) 0 0 0 0 []) := Lib.hid (by rw [decV, if_neg (by rw [HL.out]; omega), HL.out])
  generalize decV (bytesOf s) = V at *
  go_enter Try.func10, Try.ntmps10
  go_wp2
  go_loopw [4, 5, 6, 7, 8, 9] (fun s4 s5 s6 s7 s8 s9 wr => ∃ (out : List Int) (v : Int) (k pads : Nat) (last : Int) (i : Nat), i ≤ s.size ∧ k ≤ i ∧ pads ≤ 2 ∧ 0 ≤ v ∧ v < 262144 ∧ s5 = .int .u32 v ∧ s6 = .int .i64 k ∧ s7 = .int .i64 pads ∧ s8 = .int .i64 last ∧ s9 = .int .i64 i ∧
    Hid (ORow .u8 5 wr w.heap.size s4 out) ∧ Hid (wr.heap[w.heap.size]? = some (.cells #[.int .i64 0, .int .i64 0] 26 (0, 0))) ∧ Hid (Below w.heap.size w wr) ∧ Hid (V = decT s.size (toks ((bytesOf s).drop i) i) k v pads last out) ∧ Hid (out.length ≤ 3 * (k / 4)) ∧
    Hid ((k % 4 = 0 → v = 0) ∧ (k % 4 = 1 → v < 64) ∧ (k % 4 = 2 → v < 4096)) ∧ Hid (0 < pads → k % 4 = 0 ∨ k % 4 = 3 ∧ pads = 1)) (fun _ _ _ _ _ s9 _ => s.size - (intOf s9).toNat)
  case atStart => exact ⟨[], 0, 0, 0, 0, 0, Nat.zero_le _, Nat.le_refl _, Nat.zero_le _, Int.le_refl _, by omega, rfl, rfl, rfl, rfl, rfl, Lib.hid (ORow.nil _ _ _ _), Lib.hid (heap_alloc_new w _), Lib.hid (below_first _), Lib.hid HV.out, Lib.hid (Nat.le_refl _), Lib.hid (by omega), Lib.hid (by omega)⟩
  case round =>
    obtain ⟨out, v, k, pads, last, i, hi, hk, hp2, hv0, hv1, rfl, rfl, rfl, rfl, rfl, HO, HF, HB, HD, HK, HVB, HPD⟩ := hrel
    by_cases hlt : i < s.size
    · have hbt := bt_at s i hlt
      simp only [Int.toNat_natCast] at hbt
      have HCI : Hid (rd (bytesOf s) (i : Int) = bt s i) := Lib.hid (rd_bytesOf s i)
      have hcr := bt_range s i
      have HCR : Hid (crlf (bytesOf s) i = decide (bt s i = 13 ∧ i + 1 < s.size ∧ bt s ((i + 1 : Nat) : Int) = 10)) := Lib.hid (by rw [crlf, HL.out, HCI.out, rd_bytesOf])
      generalize hcc : bt s (i : Int) = c at *
      clear hcc
      obtain ⟨hc0, hc1⟩ := hcr
      go_upto_region 10 with (fail)
      try simp only [hbt]
      go_cut [41] (fun s41 wx => wx = wr ∧ s41 = .bool (crlf (bytesOf s) i))
      case first =>
        by_cases h1 : c = 13
        · have b1 : (c == 13) = true := beq_iff_eq.mpr h1
          by_cases h2 : i + 1 < s.size
          · have hbt2 := bt_at s ((i + 1 : Nat) : Int) h2
            simp only [Int.toNat_natCast] at hbt2
            have d2 : decide ((i : Int) + 1 < (s.size : Int)) = true := decide_eq_true (by omega)
            by_cases h3 : bt s ((i + 1 : Nat) : Int) = 10
            · have E := Lib.hid (show decide (c = 13 ∧ i + 1 < s.size ∧ bt s ((i + 1 : Nat) : Int) = 10) = true from decide_eq_true ⟨h1, h2, h3⟩)
              rw [h3] at hbt2
              clear h1 h3 hbt
              go_wp2
              go_meet
              exact ⟨rfl, by rw [HCR.out, E.out]⟩
            · have E := Lib.hid (show decide (c = 13 ∧ i + 1 < s.size ∧ bt s ((i + 1 : Nat) : Int) = 10) = false from decide_eq_false (fun h => h3 h.2.2))
              generalize bt s ((i + 1 : Nat) : Int) = c2 at *
              have b3 : (c2 == 10) = false := beq_eq_false_iff_ne.mpr h3
              clear h1 h3 hbt
              go_wp2
              go_meet
              exact ⟨rfl, by rw [HCR.out, E.out]⟩
          · have E := Lib.hid (show decide (c = 13 ∧ i + 1 < s.size ∧ bt s ((i + 1 : Nat) : Int) = 10) = false from decide_eq_false (fun h => h2 h.2.1))
            have d2 : decide ((i : Int) + 1 < (s.size : Int)) = false := decide_eq_false (by omega)
            clear h1 hbt
            go_wp2
            go_meet
            exact ⟨rfl, by rw [HCR.out, E.out]⟩
        · have E := Lib.hid (show decide (c = 13 ∧ i + 1 < s.size ∧ bt s ((i + 1 : Nat) : Int) = 10) = false from decide_eq_false (fun h => h1 h.1))
          have b1 : (c == 13) = false := beq_eq_false_iff_ne.mpr h1
          clear h1 hbt
          go_wp2
          go_meet
          exact ⟨rfl, by rw [HCR.out, E.out]⟩
      case rest =>
        obtain ⟨rfl, rfl⟩ := hcut
        rcases hx : crlf (bytesOf s) i with _ | _
        · have HD1 : Hid (V = decT s.size ((c, (i : Int)) :: toks ((bytesOf s).drop (i + 1)) ((i + 1 : Nat) : Int)) k v pads last out) := Lib.hid (by
            rw [HD.out, toks_take _ _ _ (by rw [HL.out]; exact hlt) hx, HCI.out]; simp)
          have HVC := Lib.hid (val_cases c hc0 hc1)
          have HC := Lib.hid (value_any c wc hc0 hc1)
          clear HD HCR
          go_upto_block 2 with (first | (go_at_call 20; ((with_reducible refine HC.out.mono ?_); rintro e w' ⟨rfl, rfl⟩)))
          have c0 : wc.cell? ⟨w.heap.size, 0, none⟩ = some (.int .i64 0) := (blk_cell HF.out 0).trans rfl
          have c1 : wc.cell? ⟨w.heap.size, 1, none⟩ = some (.int .i64 0) := (blk_cell HF.out 1).trans rfl
          have z0 := blk_frozen HF.out 0
          have z1 := blk_frozen HF.out 1
          by_cases he1 : valV c = -1 ∧ c ≠ 61
          · have HV2 : Hid (V = ([], (i : Int), 10)) := Lib.hid (by rw [HD1.out, decT, if_pos he1])
            have b1 : (c != 61) = true := bne_iff_ne.mpr he1.2
            simp only [he1.1]
            clear he1 HVC
            go_wp2
            have HF1 := blk_set (blk_set HF.out 0 (.int .i64 (i : Int))) 1 (.int .i64 10)
            refine bodyPost_ret (results_tc rfl _ _ _ _ _ _ _ rfl HF1 Try.underlying26 rfl (by kernel_rfl)) rfl ?_
            rw [HV2.out]
            exact ⟨_, rfl, ORow.nil _ _ _ _, below_set (below_set HB.out (Nat.le_refl _)) (Nat.le_refl _)⟩
          · by_cases he2 : (c = 61 ∧ k % 4 < 2) ∨ (c ≠ 61 ∧ 0 < pads)
            · have HV2 : Hid (V = ([], (i : Int), 11)) := Lib.hid (by rw [HD1.out, decT, if_neg he1, if_pos he2])
              by_cases h61 : c = 61
              · subst h61
                simp only [val_61]
                have d1 : decide ((k : Int) % 4 < 2) = true := decide_eq_true (by omega)
                clear he1 he2 HVC
                go_wp2
                have HF1 := blk_set (blk_set HF.out 0 (.int .i64 (i : Int))) 1 (.int .i64 11)
                refine bodyPost_ret (results_tc rfl _ _ _ _ _ _ _ rfl HF1 Try.underlying26 rfl (by kernel_rfl)) rfl ?_
                rw [HV2.out]
                exact ⟨_, rfl, ORow.nil _ _ _ _, below_set (below_set HB.out (Nat.le_refl _)) (Nat.le_refl _)⟩
              · have b1 : (c != 61) = true := bne_iff_ne.mpr h61
                have b2 : (c == 61) = false := beq_eq_false_iff_ne.mpr h61
                have h0 : ¬ valV c = -1 := fun h => he1 ⟨h, h61⟩
                have d0 : decide (valV c = -1) = false := decide_eq_false h0
                have d1 : decide ((0 : Int) < (pads : Int)) = true := decide_eq_true (by omega)
                have d2 : 1 ≤ pads := by omega
                simp only [d0, if_neg h0, Bool.not_false]
                clear he1 he2 HVC h61 h0
                go_wp2
                have HF1 := blk_set (blk_set HF.out 0 (.int .i64 (i : Int))) 1 (.int .i64 11)
                refine bodyPost_ret (results_tc rfl _ _ _ _ _ _ _ rfl HF1 Try.underlying26 rfl (by kernel_rfl)) rfl ?_
                rw [HV2.out]
                exact ⟨_, rfl, ORow.nil _ _ _ _, below_set (below_set HB.out (Nat.le_refl _)) (Nat.le_refl _)⟩
            · have HD2 := Lib.hid (HD1.out.trans (by rw [decT, if_neg he1, if_neg he2]))
              have HDD : Hid (0 ≤ (if c = 61 then 0 else valV c) ∧ (if c = 61 then 0 else valV c) < 64) := Lib.hid (by
                by_cases h : c = 61
                · rw [if_pos h]; omega
                · rw [if_neg h]; have := HVC.out; omega)
              have HPP : Hid ((if c = 61 then pads + 1 else pads) ≤ 2 ∧ (0 < (if c = 61 then pads + 1 else pads) → k % 4 = 3 ∨ (k % 4 = 2 ∧ (if c = 61 then pads + 1 else pads) = 1))) := Lib.hid (by
                have := HPD.out
                split <;> omega)
              go_cut [7, 8, 11, 12] (fun s7 s8 s11 s12 wx => wx = wc ∧ s7 = .int .i64 ((if c = 61 then pads + 1 else pads : Nat) : Int) ∧ s8 = .int .i64 (if c = 61 then last else (i : Int)) ∧ s11 = .int .u32 (if c = 61 then 0 else valV c))
              case first =>
                clear HD1 HD2 HDD HPP
                by_cases h61 : c = 61
                · subst h61
                  simp only [val_61]
                  have d1 : decide ((k : Int) % 4 < 2) = false := decide_eq_false (by omega)
                  clear he1 he2 HVC
                  go_wp2
                  go_meet
                  exact ⟨rfl, by simp, by simp, by simp⟩
                · have b1 : (c != 61) = true := bne_iff_ne.mpr h61
                  have b2 : (c == 61) = false := beq_eq_false_iff_ne.mpr h61
                  have h0 : ¬ valV c = -1 := fun h => he1 ⟨h, h61⟩
                  have d0 : decide (valV c = -1) = false := decide_eq_false h0
                  have d1 : decide ((0 : Int) < (pads : Int)) = false := decide_eq_false (by omega)
                  have d2 : pads ≤ 0 := by omega
                  have H61 := Lib.hid h61
                  have H0 := Lib.hid h0
                  simp only [d0, if_neg h0, Bool.not_false]
                  clear he1 he2 HVC h61 h0
                  go_wp2
                  go_meet
                  exact ⟨rfl, by rw [if_neg H61.out], by rw [if_neg H61.out], by rw [if_neg H61.out]⟩
              case rest =>
                obtain ⟨rfl, rfl, rfl, rfl⟩ := hcut
                generalize (if c = 61 then 0 else valV c) = D at *
                generalize (if c = 61 then (last : Int) else (i : Int)) = L at *
                generalize (if c = 61 then pads + 1 else pads) = P at *
                obtain ⟨hD0, hD1⟩ := HDD.out
                have ea : bits BinOp.or IntKind.u32 (v * 64) D = v * 64 + D := six_u32 v D hv0 hv1 hD0 hD1
                clear HD1 HVC he1 he2 HC HPD c0 c1 z0 z1
                by_cases hk4 : (k + 1) % 4 = 0
                · have HD3 := Lib.hid (HD2.out.trans (by rw [if_pos hk4]))
                  have HP3 : Hid (P = 0 ∨ P = 1 ∨ P = 2) := Lib.hid (by have := HPP.out; omega)
                  have b1 : (((k : Int) + 1) % 4 == 0) = true := beq_iff_eq.mpr (by omega)
                  have hy : 0 ≤ v * 64 + D ∧ v * 64 + D < 16777216 := by omega
                  have HK4 := Lib.hid hk4
                  clear HD2 hk4
                  generalize v * 64 + D = y at *
                  obtain ⟨hy0, hy1⟩ := hy
                  generalize hN3 : [y / 65536, y / 256 % 256, y % 256] = n3 at *
                  have HN3 := Lib.hid hN3
                  have HNL : Hid (n3.length = 3) := Lib.hid (by rw [← hN3]; rfl)
                  clear hN3
                  have HR3 := Lib.hid (fun (W : World) => lit_reads .u8 5 W n3 #[.int .u8 (y / 65536), .int .u8 (y / 256 % 256), .int .u8 (y % 256)] 3 W.heap.size rfl (by rw [← HN3.out]; rfl) (by rw [HNL.out]) (by rw [HNL.out]; decide))
                  have HO1 := Lib.hid (HO.out.alloc (.cells #[.int .u8 (y / 65536), .int .u8 (y / 256 % 256), .int .u8 (y % 256)] 5))
                  have HF1 := Lib.hid (blk_below HF.out (below_first (w := wc) (.cells #[.int .u8 (y / 65536), .int .u8 (y / 256 % 256), .int .u8 (y % 256)] 5)))
                  have HB1 := Lib.hid (below_then HB.out HB.out.size (below_first (w := wc) (.cells #[.int .u8 (y / 65536), .int .u8 (y / 256 % 256), .int .u8 (y % 256)] 5)))
                  have HSZ := Lib.hid (Nat.le_trans HB.out.size (below_first (w := wc) (.cells #[.int .u8 (y / 65536), .int .u8 (y / 256 % 256), .int .u8 (y % 256)] 5)).size)
                  have HBD : Hid ((out.length + 3) * 1 ≤ 140737488355328) := Lib.hid (by have := HK.out; omega)
                  go_upto_region 26 with (first | (at_builtin; refine print_append_row (w0 := w) w.heap.size rfl (.tmp 89) (.tmp 98) 23 5 .u8 1 rfl Try.underlying23 infoU8 (by decide) _ out n3 _ _ _ rfl rfl HO1.out (HR3.out _) HB1.out HSZ.out HBD.out ?_; intro v1 w2 hO2 hB2 hg2 _; have HO2 : Hid (ORow .u8 5 w2 w.heap.size v1 (out ++ n3)) := Lib.hid hO2; have HB2 := Lib.hid hB2; have HF2 := Lib.hid ((hg2.block _ (blk_lt HF1.out) (own_ne HO1.out HF1.out (by decide))).trans HF1.out); clear hO2 hB2 hg2; have HOL : Hid ((out ++ n3).length = out.length + 3) := Lib.hid (by rw [List.length_append, HNL.out]); generalize out ++ n3 = o3 at *; obtain ⟨A1, c1, rfl, hc1, hR1⟩ := HO2.out.reads))
                  have hol : 3 ≤ o3.length := by have := HOL.out; omega
                  have hou : o3.length ≤ 2097155 := by have := HOL.out; have := HK.out; omega
                  have hP2 : P ≤ 2 := HPP.out.1
                  have HD4 : Hid (V = if rd o3 ((o3.length - P : Nat) : Int) ≠ 0 then ([], L, 12) else decT s.size (toks ((bytesOf s).drop (i + 1)) ((i + 1 : Nat) : Int)) (k + 1) 0 P L (o3.take (o3.length - P))) := Lib.hid (by rw [HOL.out]; exact HD3.out)
                  obtain ⟨i0, hi0, _, hsz, _⟩ := info_parts infoU8
                  obtain ⟨hcutT, hAT, hCT⟩ := print_take_of (P := Try.prog) (Value.int .u8) (0 : Int) 23 5 .i64 Try.underlying23 hi0 hsz A1 c1 o3 ((o3.length : Int) - (P : Int)) (by omega) (by omega) hc1
                  obtain ⟨A2, hcutD, hAD, hCD⟩ := print_drop_of (P := Try.prog) (Value.int .u8) (0 : Int) 23 5 .i64 Try.underlying23 hi0 hsz A1 c1 o3 ((o3.length : Int) - (P : Int)) (by omega) (by omega) hc1
                  have hj : ((o3.length : Int) - (P : Int)).toNat = o3.length - P := by omega
                  rw [hj] at hcutT hAT hCT hcutD hAD hCD
                  have HRD : Hid (ReadsInt w2 .u8 A2 (o3.drop (o3.length - P)).length (o3.drop (o3.length - P))) := Lib.hid (hAD _ hR1)
                  have HOT := Lib.hid (HO2.out.take rfl (show o3.length - P ≤ o3.length by omega))
                  have HDL : Hid ((o3.drop (o3.length - P)).length = P) := Lib.hid (by rw [List.length_drop]; omega)
                  have HRZ := Lib.hid (rd_zero_drop o3 (o3.length - P))
                  have HTL : Hid ((o3.take (o3.length - P)).length ≤ 3 * ((k + 1) / 4)) := Lib.hid (by
                    rw [List.length_take]
                    have := HK.out; have := HOL.out; have := HK4.out
                    omega)
                  have HPD2 : Hid (0 < P → (k + 1) % 4 = 0 ∨ (k + 1) % 4 = 3 ∧ P = 1) := Lib.hid (fun _ => .inl HK4.out)
                  have HVB2 : Hid (((k + 1) % 4 = 0 → (0 : Int) = 0) ∧ ((k + 1) % 4 = 1 → (0 : Int) < 64) ∧ ((k + 1) % 4 = 2 → (0 : Int) < 4096)) := Lib.hid ⟨fun _ => rfl, fun _ => by decide, fun _ => by decide⟩
                  clear hAT hAD hi0 hsz hR1 hj hCT hCD HD3
                  by_cases hP : 0 < P
                  · have d1 : decide ((0 : Int) < (P : Int)) = true := decide_eq_true (by omega)
                    generalize o3.length - P = m at *
                    generalize o3.drop m = q at *
                    generalize o3.take m = o4 at *
                    have hql : 1 ≤ q.length := by have := HDL.out; omega
                    obtain ⟨ad, rfl, hcell⟩ := HRD.out.at_ 0 (by omega) (by omega)
                    have hcell2 : w2.cell? ad = some (.int .u8 (rd o3 (m : Int))) := by rw [← HRZ.out]; rw [show ((0 : Int)).toNat = 0 from rfl, Addr.add_zero'] at hcell; exact hcell
                    clear hcell
                    by_cases hz : rd o3 (m : Int) = 0
                    · have HD5 := Lib.hid (HD4.out.trans (by rw [if_neg (by rw [hz]; decide)]))
                      rw [hz] at hcell2
                      clear HD4 hz
                      go_wp2
                      go_roundw
                      case rel => exact ⟨o4, 0, k + 1, P, L, i + 1, hlt, by omega, hP2, by omega, by omega, rfl, by go_num, rfl, rfl, by go_num, HOT, HF2, HB2, HD5, HTL, HVB2, HPD2⟩
                      case measure => simp [intOf]; omega
                    · have HD5 : Hid (V = ([], L, 12)) := Lib.hid (HD4.out.trans (by rw [if_pos hz]))
                      have b2 : (rd o3 (m : Int) != 0) = true := bne_iff_ne.mpr hz
                      have c0 : w2.cell? ⟨w.heap.size, 0, none⟩ = some (.int .i64 0) := (blk_cell HF2.out 0).trans rfl
                      have c1 : w2.cell? ⟨w.heap.size, 1, none⟩ = some (.int .i64 0) := (blk_cell HF2.out 1).trans rfl
                      have z0 := blk_frozen HF2.out 0
                      have z1 := blk_frozen HF2.out 1
                      generalize rd o3 (m : Int) = z at *
                      clear HD4 hz
                      go_wp2
                      have HF1 := blk_set (blk_set HF2.out 0 (.int .i64 L)) 1 (.int .i64 12)
                      refine bodyPost_ret (results_tc rfl _ _ _ _ _ _ _ rfl HF1 Try.underlying26 rfl (by kernel_rfl)) rfl ?_
                      rw [HD5.out]
                      exact ⟨_, rfl, ORow.nil _ _ _ _, below_set (below_set HB2.out (Nat.le_refl _)) (Nat.le_refl _)⟩
                  · have d1 : decide ((0 : Int) < (P : Int)) = false := decide_eq_false (by omega)
                    have hz : rd o3 ((o3.length - P : Nat) : Int) = 0 := by
                      rw [show o3.length - P = o3.length by omega]
                      simp [rd]
                    have HD5 := Lib.hid (HD4.out.trans (by rw [if_neg (by rw [hz]; decide)]))
                    generalize o3.length - P = m at *
                    generalize o3.take m = o4 at *
                    have hP0 : P ≤ 0 := by omega
                    clear HD4 hz hP
                    go_wp2
                    go_roundw
                    case rel => exact ⟨o4, 0, k + 1, P, L, i + 1, hlt, by omega, hP2, by omega, by omega, rfl, by go_num, rfl, rfl, by go_num, HOT, HF2, HB2, HD5, HTL, HVB2, HPD2⟩
                    case measure => simp [intOf]; omega
                · have HD3 := Lib.hid (HD2.out.trans (by rw [if_neg hk4]))
                  have b1 : (((k : Int) + 1) % 4 == 0) = false := beq_eq_false_iff_ne.mpr (by omega)
                  have HV4 : Hid (v * 64 + D < 262144) := Lib.hid (by have := HVB.out; omega)
                  have HVB2 : Hid (((k + 1) % 4 = 0 → v * 64 + D = 0) ∧ ((k + 1) % 4 = 1 → v * 64 + D < 64) ∧ ((k + 1) % 4 = 2 → v * 64 + D < 4096)) := Lib.hid (by have := HVB.out; omega)
                  have HPD2 : Hid (0 < P → (k + 1) % 4 = 0 ∨ (k + 1) % 4 = 3 ∧ P = 1) := Lib.hid (by have := HPP.out; omega)
                  clear HD2 hk4 HVB
                  go_wp2
                  go_roundw
                  case rel => exact ⟨out, v * 64 + D, k + 1, P, L, i + 1, hlt, by omega, HPP.out.1, by omega, HV4.out, rfl, by go_num, rfl, rfl, by go_num, HO, HF, HB, HD3, Lib.hid (by have := HK.out; omega), HVB2, HPD2⟩
                  case measure => simp [intOf]; omega
        · have HD1 : Hid (V = decT s.size (toks ((bytesOf s).drop (i + 2)) ((i + 2 : Nat) : Int)) k v pads last out) := Lib.hid (by rw [HD.out, toks_skip _ _ _ hx]; simp)
          have HI2 : Hid (i + 2 ≤ s.size) := Lib.hid (by have h := HCR.out; rw [hx] at h; have := of_decide_eq_true h.symm; omega)
          have hi2 := HI2.out
          go_wp2
          go_roundw
          case rel => exact ⟨out, v, k, pads, last, i + 2, hi2, by omega, hp2, hv0, hv1, rfl, rfl, rfl, rfl, by go_num, HO, HF, HB, HD1, HK, HVB, HPD⟩
          case measure => simp [intOf]; omega
    · have hT : toks ((bytesOf s).drop i) i = [] := toks_end _ _ _ (by rw [HL.out]; omega)
      have HD2 : Hid (V = decT s.size [] k v pads last out) := Lib.hid (by rw [HD.out, hT])
      have c0 : wr.cell? ⟨w.heap.size, 0, none⟩ = some (.int .i64 0) := (blk_cell HF.out 0).trans rfl
      have c1 : wr.cell? ⟨w.heap.size, 1, none⟩ = some (.int .i64 0) := (blk_cell HF.out 1).trans rfl
      have z0 := blk_frozen HF.out 0
      have z1 := blk_frozen HF.out 1
      clear HD hT
      by_cases hk4 : k % 4 = 0
      · have HV2 : Hid (V = (out, 0, 0)) := Lib.hid (by rw [HD2.out, decT, if_pos hk4])
        have d1 : ((k : Int) % 4 != 0) = false := bne_eq_false_iff_eq.mpr (by omega)
        clear hk4
        go_wp2
        have HF1 := blk_set (blk_set HF.out 0 (.int .i64 0)) 1 (.int .i64 0)
        refine bodyPost_ret (results_tc rfl _ _ _ _ _ _ _ rfl HF1 Try.underlying26 rfl (by kernel_rfl)) rfl ?_
        rw [HV2.out]
        exact ⟨_, rfl, (HO.out.set_ HF.out (by decide) 0 _).set_ (blk_set HF.out 0 _) (by decide) 1 _, below_set (below_set HB.out (Nat.le_refl _)) (Nat.le_refl _)⟩
      · have HV2 : Hid (V = ([], (s.size : Int), 11)) := Lib.hid (by rw [HD2.out, decT, if_neg hk4])
        have d1 : ((k : Int) % 4 != 0) = true := bne_iff_ne.mpr (by omega)
        clear hk4
        go_wp2
        have HF1 := blk_set (blk_set HF.out 0 (.int .i64 s.size)) 1 (.int .i64 11)
        refine bodyPost_ret (results_tc rfl _ _ _ _ _ _ _ rfl HF1 Try.underlying26 rfl (by kernel_rfl)) rfl ?_
        rw [HV2.out]
        exact ⟨_, rfl, ORow.nil _ _ _ _, below_set (below_set HB.out (Nat.le_refl _)) (Nat.le_refl _)⟩
end Go.Proofs.Ytijccfblenmfcaa
