/- pages.Unpack, walked. -/
import Derived.Test.YtlmdghafiadgjaaPg4
namespace Go.Proofs.Ytlmdghafiadgjaa
set_option linter.unusedVariables false
set_option linter.unusedSimpArgs false
open Go.RowKit Go.Proofs.YtlmdghafiadgjaaW.PrintWords Go.Proofs.YtlmdghafiadgjaaW.PrintLast

theorem results_tmp4 {fn : Func} {t u v x : Tmp} (h : fn.results = #[.tmp t, .tmp u, .tmp v, .tmp x]) (tmps : Array Value) (P : Program) (w : World) :
    (results fn tmps).run P w = .ok (.tuple #[tmps.getD t undef, tmps.getD u undef, tmps.getD v undef, tmps.getD x undef]) w := by
  simp [results, h]
def UnpEnds (w : World) (r : Int × Int × List Int × Int) (e : Ending) (w' : World) : Prop :=
  ∃ v, e = .returned (.tuple #[.int .u8 r.1, .int .u64 r.2.1, v, .int .i64 r.2.2.2]) ∧ ORow .u8 5 w' w.heap.size v r.2.2.1 ∧ Below w.heap.size w w'
theorem unpackV_no {b : List Int} {n : Int} (h : ¬ IsPage b n) : unpackV b n = (0, 0, [], 161) := by
  unfold unpackV
  rw [if_neg (fun e => h ((pageB_iff _ _).1 e))]
theorem unpackV_yes {b : List Int} {n : Int} (h : IsPage b n) : unpackV b n = (rd b 0, pgT b, pgC b, 0) := by
  unfold unpackV
  rw [if_pos ((pageB_iff _ _).2 h)]
set_option maxRecDepth 100000 in
theorem slice_pg (w : World) (g lo hi : Nat) (l h : Int) (hlo : l = (lo : Int)) (hhi : h = (hi : Int)) (h1 : lo ≤ hi) (h2 : hi ≤ 1024) (h3 : lo < 1024) : (Instr.sliceAt 70 (.pointer (some ⟨g, 0, none⟩)) (some (.int .i64 l)) (some (.int .i64 h)) none).run Try.prog w = .ok (.slice (some ⟨g, lo, none⟩) (hi - lo) (1024 - lo)) w := by
  subst hlo; subst hhi
  have hl : Try.prog.arrayLen 70 = 1024 := by kernel_rfl
  have hs : (sizeOf (Try.prog.elem 70)).run Try.prog w = .ok 1 w := by kernel_rfl
  have he := run_sliceAt_array_lh (P := Try.prog) w 70 ⟨g, 0, none⟩ Try.underlying70 .i64 .i64 (lo : Int) (hi : Int) (by omega) (by omega) (by rw [hl]; omega)
  rw [he, hs, hl]
  simp only [Result.andThen_ok, slicedAt, Int.toNat_natCast, Nat.mul_one]
  rw [if_neg (show ¬ 1024 = lo by omega)]
  have e : (⟨g, 0, none⟩ : Addr).add lo = ⟨g, lo, none⟩ := by unfold Addr.add; split <;> simp_all
  rw [e]
theorem splice_all {xs : List Int} (h : xs.length = 1024) : splice z1024 0 xs = xs := by
  unfold splice
  rw [List.take_zero, List.nil_append, List.drop_eq_nil_of_le (by rw [z1024_len]; omega), List.append_nil]
set_option maxRecDepth 100000 in
set_option maxHeartbeats 1000000 in
theorem unpack_bad (A : Option Addr) (m c : Nat) (hm : m ≤ 9223372036854775807) (n : Int) (w : World) (h : m ≠ 1024 ∨ n < 0 ∨ 16384 ≤ n) :
    Calls Try.prog 12 #[.slice A m c, .int .i64 n] w (UnpEnds w (0, 0, [], 161)) := by
  have hz := zero_pg
  by_cases h1 : m = 1024
  · subst h1
    have h2 := h.resolve_left (fun e => e rfl)
    clear h
    by_cases h3 : n < 0
    · clear h2
      go_enter Try.func12, Try.ntmps12
      go_wp2
      (try simp only [Exit.inBlock, Exit.then])
      refine bodyPost_ret (results_tmp4 rfl _ _ _) rfl ?_
      exact ⟨_, rfl, ORow.nil _ _ _ _, below_first _⟩
    · have h4 : 16384 ≤ n := by omega
      clear h2
      go_enter Try.func12, Try.ntmps12
      go_wp2
      (try simp only [Exit.inBlock, Exit.then])
      refine bodyPost_ret (results_tmp4 rfl _ _ _) rfl ?_
      exact ⟨_, rfl, ORow.nil _ _ _ _, below_first _⟩
  · have h1b : ((m : Int) != 1024) = true := bne_iff_ne.mpr (by omega)
    clear h
    go_enter Try.func12, Try.ntmps12
    go_wp2
    (try simp only [Exit.inBlock, Exit.then])
    refine bodyPost_ret (results_tmp4 rfl _ _ _) rfl ?_
    exact ⟨_, rfl, ORow.nil _ _ _ _, below_first _⟩
set_option maxRecDepth 100000 in
set_option maxHeartbeats 8000000 in
theorem unpack_good (A : Option Addr) (c : Nat) (xs : List Int) (n : Int) (w : World) (hr : ReadsInt w .u8 A 1024 xs) (hb : Bytes xs) (hn0 : 0 ≤ n) (hn1 : n < 16384) :
    Calls Try.prog 12 #[.slice A 1024 c, .int .i64 n] w (UnpEnds w (unpackV xs n)) := by
  have hl : xs.length = 1024 := hr.1
  have hz := zero_pg
  have HR := Lib.hid hr
  have HL := Lib.hid hl
  have h0 : Hid (RowP (w.alloc (.cells (nums .u8 z1024).toArray 70)) w.heap.size z1024) := Lib.hid (heap_alloc_last w _)
  have B0 := Lib.hid (below_first (w := w) (.cells (nums .u8 z1024).toArray 70))
  have HSA := Lib.hid (splice_all hl)
  have hrd : ∀ (W : World) (a b : Nat), RowP W w.heap.size xs → a ≤ b → b ≤ 1024 → ReadsInt W .u8 (some ⟨w.heap.size, a, none⟩) (b - a) (seg xs a b) := fun W a b hW h1 h2 => hW.reads (by omega) h1 (by omega)
  have HRD := Lib.hid hrd
  have HN1 : Hid ((nums .u8 xs).length = Nat.min 1024 1024) := Lib.hid (by show _ = 1024; simp [nums, hl])
  have HF1 : Hid (0 + (nums .u8 xs).length ≤ (nums .u8 z1024).length) := Lib.hid (by rw [show (nums .u8 xs).length = xs.length by simp [nums], show (nums .u8 z1024).length = z1024.length by simp [nums], hl, z1024_len]; decide)
  have HSRC : Hid (0 < (nums .u8 xs).length → (some ⟨w.heap.size, 0, none⟩ : Option Addr) = some ⟨w.heap.size, 0, none⟩ ∧ ∃ ad, A = some ad ∧ ∀ j v, (nums .u8 xs)[j]? = some v → (w.alloc (.cells (nums .u8 z1024).toArray 70)).cell? (ad.add j) = some v) := Lib.hid (fun _ => ⟨rfl, reads_src (reads_below8 hr B0.out) (by decide)⟩)
  have HZ := Lib.hid z1024_len
  have G2 := Lib.hid (fun W (hW : RowP W w.heap.size xs) => get_any (some ⟨w.heap.size, 2, none⟩) 2 1022 (seg xs 2 4) W (hrd W 2 4 hW (by decide) (by decide)) (seg_bytes hb _ _) (by decide))
  have G4 := Lib.hid (fun W (hW : RowP W w.heap.size xs) => get_any (some ⟨w.heap.size, 4, none⟩) 4 1020 (seg xs 4 8) W (hrd W 4 8 hW (by decide) (by decide)) (seg_bytes hb _ _) (by decide))
  have G8 := Lib.hid (fun W (hW : RowP W w.heap.size xs) => get_any (some ⟨w.heap.size, 8, none⟩) 8 1016 (seg xs 8 16) W (hrd W 8 16 hW (by decide) (by decide)) (seg_bytes hb _ _) (by decide))
  have G9 := Lib.hid (fun W (hW : RowP W w.heap.size xs) => get_any (some ⟨w.heap.size, 1016, none⟩) 8 8 (seg xs 1016 1024) W (hrd W 1016 1024 hW (by decide) (by decide)) (seg_bytes hb _ _) (by decide))
  have G6 := Lib.hid (fun W (hW : RowP W w.heap.size xs) => get_any (some ⟨w.heap.size, 16, none⟩) 4 1008 (seg xs 16 20) W (hrd W 16 20 hW (by decide) (by decide)) (seg_bytes hb _ _) (by decide))
  have GS := Lib.hid (fun W (hW : RowP W w.heap.size xs) => sum_any w.heap.size xs W hW hl hb)
  have HC0 := Lib.hid (fun W (hW : RowP W w.heap.size xs) => hW.cell 0 (by omega))
  have HC1 := Lib.hid (fun W (hW : RowP W w.heap.size xs) => hW.cell 1 (by omega))
  rw [show ((0 : Nat) : Int) = 0 from rfl] at HC0
  rw [show ((1 : Nat) : Int) = 1 from rfl] at HC1
  have HM := ge_range (seg_bytes hb 2 4)
  rw [seg_len (by omega)] at HM
  obtain ⟨M, hM⟩ : ∃ M : Nat, ge (seg xs 2 4) = (M : Int) := ⟨(ge (seg xs 2 4)).toNat, by omega⟩
  have hM2 : M < 65536 := by rw [hM] at HM; have := HM.2; omega
  rw [hM] at G2
  have HPC : Hid (M ≤ 996 → pgC xs = seg xs 20 (20 + M)) := Lib.hid (fun _ => by unfold pgC; rw [hM, Int.toNat_natCast])
  have HU : Hid (pgT xs = ge (seg xs 8 16)) := Lib.hid rfl
  have HNO := Lib.hid (@unpackV_no xs n)
  have HYES := Lib.hid (@unpackV_yes xs n)
  have HIS : Hid (IsPage xs n ↔ rd xs 0 ≠ 0 ∧ rd xs 1 = 0 ∧ (M : Int) ≤ 996 ∧ ge (seg xs 4 8) = n ∧ ge (seg xs 1016 1024) = ge (seg xs 8 16) ∧ ge (seg xs 16 20) = sumV (xs.take 16 ++ xs.drop 20) ∧ (seg xs (20 + M) 1016).any (fun c => c != 0) = false) := Lib.hid (by
    have hany : (∀ c ∈ seg xs (20 + M) 1016, c = 0) ↔ (seg xs (20 + M) 1016).any (fun c => c != 0) = false := by
      rw [List.any_eq_false]
      exact ⟨fun h c hc => by rw [h c hc]; decide, fun h c hc => by have := h c hc; simpa using this⟩
    constructor
    · intro h
      have h2 := h.rest
      rw [hM, Int.toNat_natCast] at h2
      exact ⟨h.k, h.z, by rw [← hM]; exact h.m, h.at_, h.turn, h.sum, hany.1 h2⟩
    · rintro ⟨h1, h2, h3, h4, h5, h6, h7⟩
      exact ⟨hl, hn0, hn1, h1, h2, by rw [hM]; exact h3, h4, h5, h6, by rw [hM, Int.toNat_natCast]; exact hany.2 h7⟩)
  rw [HU.out] at HYES
  generalize unpackV xs n = UV at *
  generalize ge (seg xs 4 8) = N4 at *
  generalize ge (seg xs 8 16) = T8 at *
  generalize ge (seg xs 1016 1024) = T9 at *
  generalize ge (seg xs 16 20) = S6 at *
  generalize sumV (xs.take 16 ++ xs.drop 20) = SV at *
  generalize rd xs 0 = b0 at *
  generalize rd xs 1 = b1 at *
  clear hr hb HM hM hrd HU hl
  by_cases c1 : b0 = 0
  · have c1b : (b0 == 0) = true := beq_iff_eq.mpr c1
    have HN : Hid (UV = (0, 0, [], 161)) := Lib.hid (HNO.out (fun h => by have h9 := HIS.out.1 h; exact h9.1 c1))
    clear HNO HYES HIS
    go_enter Try.func12, Try.ntmps12
    go_upto_region 4 with fail
    generalize (w.alloc (.cells (nums .u8 z1024).toArray 70)) = w1 at *
    go_upto_region 5 with (first
      | (refine wpList_copy_splice (o := ⟨some 24, .call { callee := .builtin .copy, args := #[.tmp 22, .tmp 23], argTypes := #[23, 23] }, _, _, _, none⟩) rfl (.tmp 22) (.tmp 23) 23 23 rfl 5 Try.underlying23 infoU8s (some ⟨w.heap.size, 0, none⟩) A 1024 1024 1024 c rfl rfl w.heap.size 0 (nums .u8 z1024) 70 h0.out (nums .u8 xs) HN1.out HSRC.out HF1.out (nums_one8 xs) w.heap.size w B0.out (Nat.le_refl _) ?_; intro w2 h5 hB5; rw [splice_nums, HSA.out] at h5; have H2 : Hid (RowP w2 w.heap.size xs) := Lib.hid h5.out; have B2 := Lib.hid hB5; have e0 := HC0.out w2 h5.out; have e1 := HC1.out w2 h5.out; clear h5 hB5))
    go_wp2_with (first
      | (go_at_call 36; ((with_reducible refine (G2.out _ H2.out).mono ?_); rintro e w3 ⟨rfl, rfl⟩))
      | (go_at_call 36; ((with_reducible refine (G8.out _ H2.out).mono ?_); rintro e w3 ⟨rfl, rfl⟩)))
    (try simp only [Exit.inBlock, Exit.then])
    refine bodyPost_ret (results_tmp4 rfl _ _ _) rfl ?_
    rw [HN.out]
    exact ⟨_, rfl, ORow.nil _ _ _ _, B2.out⟩
  have c1b : (b0 == 0) = false := beq_eq_false_iff_ne.mpr c1
  by_cases c2 : b1 = 0
  rotate_left
  · have c2b : (b1 != 0) = true := bne_iff_ne.mpr c2
    have HN : Hid (UV = (0, 0, [], 161)) := Lib.hid (HNO.out (fun h => by have h9 := HIS.out.1 h; exact c2 h9.2.1))
    clear HNO HYES HIS
    go_enter Try.func12, Try.ntmps12
    go_upto_region 4 with fail
    generalize (w.alloc (.cells (nums .u8 z1024).toArray 70)) = w1 at *
    go_upto_region 5 with (first
      | (refine wpList_copy_splice (o := ⟨some 24, .call { callee := .builtin .copy, args := #[.tmp 22, .tmp 23], argTypes := #[23, 23] }, _, _, _, none⟩) rfl (.tmp 22) (.tmp 23) 23 23 rfl 5 Try.underlying23 infoU8s (some ⟨w.heap.size, 0, none⟩) A 1024 1024 1024 c rfl rfl w.heap.size 0 (nums .u8 z1024) 70 h0.out (nums .u8 xs) HN1.out HSRC.out HF1.out (nums_one8 xs) w.heap.size w B0.out (Nat.le_refl _) ?_; intro w2 h5 hB5; rw [splice_nums, HSA.out] at h5; have H2 : Hid (RowP w2 w.heap.size xs) := Lib.hid h5.out; have B2 := Lib.hid hB5; have e0 := HC0.out w2 h5.out; have e1 := HC1.out w2 h5.out; clear h5 hB5))
    go_wp2_with (first
      | (go_at_call 36; ((with_reducible refine (G2.out _ H2.out).mono ?_); rintro e w3 ⟨rfl, rfl⟩))
      | (go_at_call 36; ((with_reducible refine (G8.out _ H2.out).mono ?_); rintro e w3 ⟨rfl, rfl⟩)))
    (try simp only [Exit.inBlock, Exit.then])
    refine bodyPost_ret (results_tmp4 rfl _ _ _) rfl ?_
    rw [HN.out]
    exact ⟨_, rfl, ORow.nil _ _ _ _, B2.out⟩
  have c2b : (b1 != 0) = false := by rw [c2]; rfl
  by_cases c3 : 996 < M
  · have HN : Hid (UV = (0, 0, [], 161)) := Lib.hid (HNO.out (fun h => by have h9 := HIS.out.1 h; have := h9.2.2.1; omega))
    clear HNO HYES HIS
    go_enter Try.func12, Try.ntmps12
    go_upto_region 4 with fail
    generalize (w.alloc (.cells (nums .u8 z1024).toArray 70)) = w1 at *
    go_upto_region 5 with (first
      | (refine wpList_copy_splice (o := ⟨some 24, .call { callee := .builtin .copy, args := #[.tmp 22, .tmp 23], argTypes := #[23, 23] }, _, _, _, none⟩) rfl (.tmp 22) (.tmp 23) 23 23 rfl 5 Try.underlying23 infoU8s (some ⟨w.heap.size, 0, none⟩) A 1024 1024 1024 c rfl rfl w.heap.size 0 (nums .u8 z1024) 70 h0.out (nums .u8 xs) HN1.out HSRC.out HF1.out (nums_one8 xs) w.heap.size w B0.out (Nat.le_refl _) ?_; intro w2 h5 hB5; rw [splice_nums, HSA.out] at h5; have H2 : Hid (RowP w2 w.heap.size xs) := Lib.hid h5.out; have B2 := Lib.hid hB5; have e0 := HC0.out w2 h5.out; have e1 := HC1.out w2 h5.out; clear h5 hB5))
    go_wp2_with (first
      | (go_at_call 36; ((with_reducible refine (G2.out _ H2.out).mono ?_); rintro e w3 ⟨rfl, rfl⟩))
      | (go_at_call 36; ((with_reducible refine (G8.out _ H2.out).mono ?_); rintro e w3 ⟨rfl, rfl⟩)))
    (try simp only [Exit.inBlock, Exit.then])
    refine bodyPost_ret (results_tmp4 rfl _ _ _) rfl ?_
    rw [HN.out]
    exact ⟨_, rfl, ORow.nil _ _ _ _, B2.out⟩
  by_cases c4 : N4 = n
  rotate_left
  · have c4b : (N4 != n) = true := bne_iff_ne.mpr c4
    have HN : Hid (UV = (0, 0, [], 161)) := Lib.hid (HNO.out (fun h => by have h9 := HIS.out.1 h; exact c4 h9.2.2.2.1))
    clear HNO HYES HIS
    go_enter Try.func12, Try.ntmps12
    go_upto_region 4 with fail
    generalize (w.alloc (.cells (nums .u8 z1024).toArray 70)) = w1 at *
    go_upto_region 5 with (first
      | (refine wpList_copy_splice (o := ⟨some 24, .call { callee := .builtin .copy, args := #[.tmp 22, .tmp 23], argTypes := #[23, 23] }, _, _, _, none⟩) rfl (.tmp 22) (.tmp 23) 23 23 rfl 5 Try.underlying23 infoU8s (some ⟨w.heap.size, 0, none⟩) A 1024 1024 1024 c rfl rfl w.heap.size 0 (nums .u8 z1024) 70 h0.out (nums .u8 xs) HN1.out HSRC.out HF1.out (nums_one8 xs) w.heap.size w B0.out (Nat.le_refl _) ?_; intro w2 h5 hB5; rw [splice_nums, HSA.out] at h5; have H2 : Hid (RowP w2 w.heap.size xs) := Lib.hid h5.out; have B2 := Lib.hid hB5; have e0 := HC0.out w2 h5.out; have e1 := HC1.out w2 h5.out; clear h5 hB5))
    go_wp2_with (first
      | (go_at_call 36; ((with_reducible refine (G2.out _ H2.out).mono ?_); rintro e w3 ⟨rfl, rfl⟩))
      | (go_at_call 36; ((with_reducible refine (G8.out _ H2.out).mono ?_); rintro e w3 ⟨rfl, rfl⟩))
      | (go_at_call 36; ((with_reducible refine (G4.out _ H2.out).mono ?_); rintro e w3 ⟨rfl, rfl⟩)))
    (try simp only [Exit.inBlock, Exit.then])
    refine bodyPost_ret (results_tmp4 rfl _ _ _) rfl ?_
    rw [HN.out]
    exact ⟨_, rfl, ORow.nil _ _ _ _, B2.out⟩
  have c4b : (N4 != n) = false := by rw [c4]; simp
  by_cases c5 : T9 = T8
  rotate_left
  · have c5b : (T9 != T8) = true := bne_iff_ne.mpr c5
    have HN : Hid (UV = (0, 0, [], 161)) := Lib.hid (HNO.out (fun h => by have h9 := HIS.out.1 h; exact c5 h9.2.2.2.2.1))
    clear HNO HYES HIS
    go_enter Try.func12, Try.ntmps12
    go_upto_region 4 with fail
    generalize (w.alloc (.cells (nums .u8 z1024).toArray 70)) = w1 at *
    go_upto_region 5 with (first
      | (refine wpList_copy_splice (o := ⟨some 24, .call { callee := .builtin .copy, args := #[.tmp 22, .tmp 23], argTypes := #[23, 23] }, _, _, _, none⟩) rfl (.tmp 22) (.tmp 23) 23 23 rfl 5 Try.underlying23 infoU8s (some ⟨w.heap.size, 0, none⟩) A 1024 1024 1024 c rfl rfl w.heap.size 0 (nums .u8 z1024) 70 h0.out (nums .u8 xs) HN1.out HSRC.out HF1.out (nums_one8 xs) w.heap.size w B0.out (Nat.le_refl _) ?_; intro w2 h5 hB5; rw [splice_nums, HSA.out] at h5; have H2 : Hid (RowP w2 w.heap.size xs) := Lib.hid h5.out; have B2 := Lib.hid hB5; have e0 := HC0.out w2 h5.out; have e1 := HC1.out w2 h5.out; clear h5 hB5))
    go_wp2_with (first
      | (go_at_call 36; ((with_reducible refine (G2.out _ H2.out).mono ?_); rintro e w3 ⟨rfl, rfl⟩))
      | (go_at_call 36; ((with_reducible refine (G8.out _ H2.out).mono ?_); rintro e w3 ⟨rfl, rfl⟩))
      | (go_at_call 36; ((with_reducible refine (G4.out _ H2.out).mono ?_); rintro e w3 ⟨rfl, rfl⟩))
      | (go_at_call 36; ((with_reducible refine (G9.out _ H2.out).mono ?_); rintro e w3 ⟨rfl, rfl⟩)))
    (try simp only [Exit.inBlock, Exit.then])
    refine bodyPost_ret (results_tmp4 rfl _ _ _) rfl ?_
    rw [HN.out]
    exact ⟨_, rfl, ORow.nil _ _ _ _, B2.out⟩
  have c5b : (T9 != T8) = false := by rw [c5]; simp
  by_cases c6 : S6 = SV
  rotate_left
  · have c6b : (S6 != SV) = true := bne_iff_ne.mpr c6
    have HN : Hid (UV = (0, 0, [], 161)) := Lib.hid (HNO.out (fun h => by have h9 := HIS.out.1 h; exact c6 h9.2.2.2.2.2.1))
    clear HNO HYES HIS
    go_enter Try.func12, Try.ntmps12
    go_upto_region 4 with fail
    generalize (w.alloc (.cells (nums .u8 z1024).toArray 70)) = w1 at *
    go_upto_region 5 with (first
      | (refine wpList_copy_splice (o := ⟨some 24, .call { callee := .builtin .copy, args := #[.tmp 22, .tmp 23], argTypes := #[23, 23] }, _, _, _, none⟩) rfl (.tmp 22) (.tmp 23) 23 23 rfl 5 Try.underlying23 infoU8s (some ⟨w.heap.size, 0, none⟩) A 1024 1024 1024 c rfl rfl w.heap.size 0 (nums .u8 z1024) 70 h0.out (nums .u8 xs) HN1.out HSRC.out HF1.out (nums_one8 xs) w.heap.size w B0.out (Nat.le_refl _) ?_; intro w2 h5 hB5; rw [splice_nums, HSA.out] at h5; have H2 : Hid (RowP w2 w.heap.size xs) := Lib.hid h5.out; have B2 := Lib.hid hB5; have e0 := HC0.out w2 h5.out; have e1 := HC1.out w2 h5.out; clear h5 hB5))
    go_wp2_with (first
      | (go_at_call 36; ((with_reducible refine (G2.out _ H2.out).mono ?_); rintro e w3 ⟨rfl, rfl⟩))
      | (go_at_call 36; ((with_reducible refine (G8.out _ H2.out).mono ?_); rintro e w3 ⟨rfl, rfl⟩))
      | (go_at_call 36; ((with_reducible refine (G4.out _ H2.out).mono ?_); rintro e w3 ⟨rfl, rfl⟩))
      | (go_at_call 36; ((with_reducible refine (G9.out _ H2.out).mono ?_); rintro e w3 ⟨rfl, rfl⟩))
      | (go_at_call 36; ((with_reducible refine (G6.out _ H2.out).mono ?_); rintro e w3 ⟨rfl, rfl⟩))
      | (go_at_call 32; ((with_reducible refine (GS.out _ H2.out).mono ?_); rintro e w4 ⟨rfl, hB⟩; have H4 : Hid (RowP w4 w.heap.size xs) := Lib.hid (blk_below H2.out hB); have B4 := Lib.hid (below_then B2.out B2.out.size hB); clear hB)))
    (try simp only [Exit.inBlock, Exit.then])
    refine bodyPost_ret (results_tmp4 rfl _ _ _) rfl ?_
    rw [HN.out]
    exact ⟨_, rfl, ORow.nil _ _ _ _, B4.out⟩
  have c6b : (S6 != SV) = false := by rw [c6]; simp
  have hs1 := fun W => slice_pg W w.heap.size (20 + M) 1016 (20 + (M : Int)) 1016 (by omega) rfl (by omega) (by decide) (by omega)
  have hs2 := fun W => slice_pg W w.heap.size 20 (20 + M) 20 (20 + (M : Int)) rfl (by omega) (by omega) (by omega) (by decide)
  rw [show 20 + M - 20 = M by omega] at hs2
  have HCO := Lib.hid (fun W (hW : RowP W w.heap.size xs) => contains_u (some ⟨w.heap.size, 20 + M, none⟩) (1016 - (20 + M)) (1024 - (20 + M)) (seg xs (20 + M) 1016) W (HRD.out W (20 + M) 1016 hW (by omega) (by decide)))
  have HCL := Lib.hid (fun W (hW : RowP W w.heap.size xs) => clone_any (some ⟨w.heap.size, 20, none⟩) M 1004 (seg xs 20 (20 + M)) W (by have h := HRD.out W 20 (20 + M) hW (by omega) (by omega); rwa [show 20 + M - 20 = M by omega] at h) (by omega))
  rcases c7 : (seg xs (20 + M) 1016).any (fun c => c != 0) with _ | _
  rotate_left
  · rw [c7] at HCO
    have HN : Hid (UV = (0, 0, [], 161)) := Lib.hid (HNO.out (fun h => by have h9 := HIS.out.1 h; have := h9.2.2.2.2.2.2; rw [c7] at this; cases this))
    clear HNO HYES HIS
    go_enter Try.func12, Try.ntmps12
    go_upto_region 4 with fail
    generalize (w.alloc (.cells (nums .u8 z1024).toArray 70)) = w1 at *
    go_upto_region 5 with (first
      | (refine wpList_copy_splice (o := ⟨some 24, .call { callee := .builtin .copy, args := #[.tmp 22, .tmp 23], argTypes := #[23, 23] }, _, _, _, none⟩) rfl (.tmp 22) (.tmp 23) 23 23 rfl 5 Try.underlying23 infoU8s (some ⟨w.heap.size, 0, none⟩) A 1024 1024 1024 c rfl rfl w.heap.size 0 (nums .u8 z1024) 70 h0.out (nums .u8 xs) HN1.out HSRC.out HF1.out (nums_one8 xs) w.heap.size w B0.out (Nat.le_refl _) ?_; intro w2 h5 hB5; rw [splice_nums, HSA.out] at h5; have H2 : Hid (RowP w2 w.heap.size xs) := Lib.hid h5.out; have B2 := Lib.hid hB5; have e0 := HC0.out w2 h5.out; have e1 := HC1.out w2 h5.out; clear h5 hB5))
    go_wp2_with (first
      | (go_at_call 36; ((with_reducible refine (G2.out _ H2.out).mono ?_); rintro e w3 ⟨rfl, rfl⟩))
      | (go_at_call 36; ((with_reducible refine (G8.out _ H2.out).mono ?_); rintro e w3 ⟨rfl, rfl⟩))
      | (go_at_call 36; ((with_reducible refine (G4.out _ H2.out).mono ?_); rintro e w3 ⟨rfl, rfl⟩))
      | (go_at_call 36; ((with_reducible refine (G9.out _ H2.out).mono ?_); rintro e w3 ⟨rfl, rfl⟩))
      | (go_at_call 36; ((with_reducible refine (G6.out _ H2.out).mono ?_); rintro e w3 ⟨rfl, rfl⟩))
      | (go_at_call 32; ((with_reducible refine (GS.out _ H2.out).mono ?_); rintro e w4 ⟨rfl, hB⟩; have H4 : Hid (RowP w4 w.heap.size xs) := Lib.hid (blk_below H2.out hB); have B4 := Lib.hid (below_then B2.out B2.out.size hB); clear hB))
      | (go_at_call 37; ((with_reducible refine (HCO.out _ H4.out).mono ?_); rintro e w5 ⟨rfl, rfl⟩)))
    (try simp only [Exit.inBlock, Exit.then])
    refine bodyPost_ret (results_tmp4 rfl _ _ _) rfl ?_
    rw [HN.out]
    exact ⟨_, rfl, ORow.nil _ _ _ _, B4.out⟩
  rw [c7] at HCO
  have HY : Hid (UV = (b0, T8, seg xs 20 (20 + M), 0)) := Lib.hid (by rw [HYES.out (HIS.out.2 ⟨c1, c2, by omega, c4, c5, c6, c7⟩), HPC.out (by omega)])
  clear HNO HYES HIS
  go_enter Try.func12, Try.ntmps12
  go_upto_region 4 with fail
  generalize (w.alloc (.cells (nums .u8 z1024).toArray 70)) = w1 at *
  go_upto_region 5 with (first
    | (refine wpList_copy_splice (o := ⟨some 24, .call { callee := .builtin .copy, args := #[.tmp 22, .tmp 23], argTypes := #[23, 23] }, _, _, _, none⟩) rfl (.tmp 22) (.tmp 23) 23 23 rfl 5 Try.underlying23 infoU8s (some ⟨w.heap.size, 0, none⟩) A 1024 1024 1024 c rfl rfl w.heap.size 0 (nums .u8 z1024) 70 h0.out (nums .u8 xs) HN1.out HSRC.out HF1.out (nums_one8 xs) w.heap.size w B0.out (Nat.le_refl _) ?_; intro w2 h5 hB5; rw [splice_nums, HSA.out] at h5; have H2 : Hid (RowP w2 w.heap.size xs) := Lib.hid h5.out; have B2 := Lib.hid hB5; have e0 := HC0.out w2 h5.out; have e1 := HC1.out w2 h5.out; clear h5 hB5))
  go_wp2_with (first
    | (go_at_call 36; ((with_reducible refine (G2.out _ H2.out).mono ?_); rintro e w3 ⟨rfl, rfl⟩))
    | (go_at_call 36; ((with_reducible refine (G8.out _ H2.out).mono ?_); rintro e w3 ⟨rfl, rfl⟩))
    | (go_at_call 36; ((with_reducible refine (G4.out _ H2.out).mono ?_); rintro e w3 ⟨rfl, rfl⟩))
    | (go_at_call 36; ((with_reducible refine (G9.out _ H2.out).mono ?_); rintro e w3 ⟨rfl, rfl⟩))
    | (go_at_call 36; ((with_reducible refine (G6.out _ H2.out).mono ?_); rintro e w3 ⟨rfl, rfl⟩))
    | (go_at_call 32; ((with_reducible refine (GS.out _ H2.out).mono ?_); rintro e w4 ⟨rfl, hB⟩; have H4 : Hid (RowP w4 w.heap.size xs) := Lib.hid (blk_below H2.out hB); have B4 := Lib.hid (below_then B2.out B2.out.size hB); clear hB))
    | (go_at_call 37; ((with_reducible refine (HCO.out _ H4.out).mono ?_); rintro e w5 ⟨rfl, rfl⟩)))
  have e04 := HC0.out w4 H4.out
  have hwr : wrap64 (20 + (M : Int)) = 20 + (M : Int) := wrap64_id _ (by omega) (by omega)
  -- W11
  refine start_ (n := 11) (S := fun w' => w'.cell? ⟨w.heap.size, 0, none⟩ = some (.int .u8 b0)) (ds := []) #[false, false, false, false, false, false, false, false, false, false, false] (by kernel_rfl) rfl rfl (e04) (fun hHeld => ?_)
  refine pure_ (i := 0) (N := some 65) (v := ?_) (a' := ?_) #[true, false, false, false, false, false, false, false, false, false, false] rfl rfl (by kernel_rfl) (fun _ _ _ h => h) (Or.inl ⟨by rfl, ?_⟩) ?_ ?_
  rotate_left
  · intro w'
    go_simp
    with_reducible rfl
  rotate_left
  · simp only [Act.put, List.setIfInBounds_toArray, List.set_cons_zero, List.set_cons_succ, i64_w, i32_w]
    rfl
  refine pure_ (i := 2) (N := some 67) (v := ?_) (a' := ?_) #[true, false, true, false, false, false, false, false, false, false, false] rfl rfl (by kernel_rfl) (fun _ _ _ h => h) (Or.inl ⟨by rfl, ?_⟩) ?_ ?_
  rotate_left
  · intro w'
    go_simp
    with_reducible rfl
  rotate_left
  · simp only [Act.put, List.setIfInBounds_toArray, List.set_cons_zero, List.set_cons_succ, i64_w, i32_w]
    rfl
  refine pure_ (i := 3) (N := some 68) (v := ?_) (a' := ?_) #[true, false, true, true, false, false, false, false, false, false, false] rfl rfl (by kernel_rfl) (fun _ _ _ h => h) (Or.inl ⟨by rfl, ?_⟩) ?_ ?_
  rotate_left
  · intro w'
    go_simp
    with_reducible rfl
  rotate_left
  · simp only [Act.put, List.setIfInBounds_toArray, List.set_cons_zero, List.set_cons_succ, i64_w, i32_w]
    rfl
  refine pure_ (i := 4) (N := some 69) (v := ?_) (a' := ?_) #[true, false, true, true, true, false, false, false, false, false, false] rfl rfl (by kernel_rfl) (fun _ _ _ h => h) (Or.inl ⟨by rfl, ?_⟩) ?_ ?_
  rotate_left
  · intro w'
    go_simp
    with_reducible rfl
  rotate_left
  · simp only [Act.put, List.setIfInBounds_toArray, List.set_cons_zero, List.set_cons_succ, i64_w, i32_w]
    rfl
  refine pure_ (i := 5) (N := some 70) (v := ?_) (a' := ?_) #[true, false, true, true, true, true, false, false, false, false, false] rfl rfl (by kernel_rfl) (fun _ _ _ h => h) (Or.inl ⟨by rfl, ?_⟩) ?_ ?_
  rotate_left
  · intro w'
    go_simp
    with_reducible rfl
  rotate_left
  · simp only [Act.put, List.setIfInBounds_toArray, List.set_cons_zero, List.set_cons_succ, i64_w, i32_w]
    rfl
  refine take_ (i := 1) (N := some 66) (v := ?_) (a' := ?_) #[true, true, true, true, true, true, false, false, false, false, false] rfl rfl (by kernel_rfl) (fun _ _ _ h => h) (Or.inl ⟨by rfl, ?_⟩) hHeld ?_ ?_
  rotate_left
  · intro w' s0
    go_simp
    with_reducible rfl
  rotate_left
  · simp only [Act.put, List.setIfInBounds_toArray, List.set_cons_zero, List.set_cons_succ, i64_w, i32_w]
    rfl
  refine one_ (i := 6) (N := some 71) #[true, true, true, true, true, true, true, false, false, false, false] rfl rfl (by kernel_rfl) (by decide) (fun K hK => ?_)
  refine goes_ Try.func39 (by kernel_rfl) rfl #[.slice (some ⟨w.heap.size, 20, none⟩) M 1004] (by rfl) rfl rfl (by simp only [List.map_toArray, List.map_cons, List.map_nil] <;> rfl) ?_
  with_reducible refine (HCL.out w4.drew (RowP.keep (w := w4) H4.out rfl)).mono ?_
  rintro e w6 ⟨v6, rfl, hO, hB⟩
  refine ⟨_, rfl, ?_⟩
  have HX6 := Lib.hid (below_step (b_drew (Below.refl _ _)) hB)
  have HO6 := Lib.hid hO
  have B6 := Lib.hid (below_then B4.out B4.out.size HX6.out)
  have e06 : w6.cell? ⟨w.heap.size, 0, none⟩ = some (.int .u8 b0) := pw_cell_below HX6.out e04
  clear hO hB
  refine hK.out _ _ (e06) (fun hHeld => ?_)
  clear hK K
  refine norm_ (a' := ?_) ?_ ?_
  rotate_left
  · show Act.put _ (some 71) _ = _
    simp only [Act.put, List.setIfInBounds_toArray, List.set_cons_zero, List.set_cons_succ, i64_w, i32_w]
    rfl
  refine pure_ (i := 7) (N := some 4) (v := ?_) (a' := ?_) #[true, true, true, true, true, true, true, true, false, false, false] rfl rfl (by kernel_rfl) (fun _ _ _ h => h) (Or.inl ⟨by rfl, ?_⟩) ?_ ?_
  rotate_left
  · intro w'
    go_simp
    with_reducible rfl
  rotate_left
  · simp only [Act.put, List.setIfInBounds_toArray, List.set_cons_zero, List.set_cons_succ, i64_w, i32_w]
    rfl
  refine pure_ (i := 8) (N := some 5) (v := ?_) (a' := ?_) #[true, true, true, true, true, true, true, true, true, false, false] rfl rfl (by kernel_rfl) (fun _ _ _ h => h) (Or.inl ⟨by rfl, ?_⟩) ?_ ?_
  rotate_left
  · intro w'
    go_simp
    with_reducible rfl
  rotate_left
  · simp only [Act.put, List.setIfInBounds_toArray, List.set_cons_zero, List.set_cons_succ, i64_w, i32_w]
    rfl
  refine pure_ (i := 9) (N := some 6) (v := ?_) (a' := ?_) #[true, true, true, true, true, true, true, true, true, true, false] rfl rfl (by kernel_rfl) (fun _ _ _ h => h) (Or.inl ⟨by rfl, ?_⟩) ?_ ?_
  rotate_left
  · intro w'
    go_simp
    with_reducible rfl
  rotate_left
  · simp only [Act.put, List.setIfInBounds_toArray, List.set_cons_zero, List.set_cons_succ, i64_w, i32_w]
    rfl
  refine pure_ (i := 10) (N := some 7) (v := ?_) (a' := ?_) #[true, true, true, true, true, true, true, true, true, true, true] rfl rfl (by kernel_rfl) (fun _ _ _ h => h) (Or.inl ⟨by rfl, ?_⟩) ?_ ?_
  rotate_left
  · intro w'
    go_simp
    with_reducible rfl
  rotate_left
  · simp only [Act.put, List.setIfInBounds_toArray, List.set_cons_zero, List.set_cons_succ, i64_w, i32_w]
    rfl
  refine done_ (by kernel_rfl) ?_
  -- ENDW11
  go_wp2
  (try simp only [Exit.inBlock, Exit.then])
  refine bodyPost_ret (results_tmp4 rfl _ _ _) rfl ?_
  rw [HY.out]
  exact ⟨v6, rfl, HO6.out.lower B4.out.size, B6.out⟩
theorem unpack_any (A : Option Addr) (m c : Nat) (xs : List Int) (n : Int) (w : World) (hr : ReadsInt w .u8 A m xs) (hb : Bytes xs) :
    Calls Try.prog 12 #[.slice A m c, .int .i64 n] w (UnpEnds w (unpackV xs n)) := by
  by_cases h : m = 1024 ∧ 0 ≤ n ∧ n < 16384
  · obtain ⟨rfl, h1, h2⟩ := h
    exact unpack_good A c xs n w hr hb h1 h2
  · rw [unpackV_no (fun hp => h ⟨by rw [← hr.1]; exact hp.len, hp.n0, hp.n1⟩)]
    exact unpack_bad A m c hr.2.1 n w (by omega)
end Go.Proofs.Ytlmdghafiadgjaa
