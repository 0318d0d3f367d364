/- What the statements of charset ask at fixed calls: all of it comes. -/
import Derived.Test.YtpbgpbblbohmgaaChE4
import Derived.Test.YtpbgpbblbohmgaaWEqStruct
namespace Go.Proofs.Ytpbgpbblbohmgaa
open Go.RowKit Go.Proofs.YtpbgpbblbohmgaaW.PrintWords

theorem decode_at (s : ByteArray) (A : Option Addr) (l : List Int) (n c : Nat) (r : List Int × Int × Int) (w : World) (hr : ReadsInt w .u8 A n l) (hby : Bytes l) (hc : n ≤ c) (hs : s.size ≤ 9223372036854775807) (hl : l.length ≤ 1048576) (hv : decodeV s l = r) :
    Calls Try.prog 10 #[.string s, .slice A n c] w (TxtPost w r) := by
  subst hv
  obtain rfl : l.length = n := hr.1
  exact decode_any s A l c w hr hby hc hs hl
theorem encode_at (s : ByteArray) (A : Option Addr) (l : List Int) (n c : Nat) (r : List Int × Int × Int) (w : World) (hr : ReadsInt w .u8 A n l) (hby : Bytes l) (hc : n ≤ c) (hs : s.size ≤ 9223372036854775807) (hl : l.length ≤ 1048576) (hv : encodeV s l = r) :
    Calls Try.prog 14 #[.string s, .slice A n c] w (TxtPost w r) := by
  subst hv
  obtain rfl : l.length = n := hr.1
  exact encode_any s A l c w hr hby hc hs hl
theorem alive_1 : decodeV ⟨#[87, 105, 110, 100, 111, 119, 115, 45, 49, 50, 53, 50]⟩ [128] = ([226, 130, 172], 0, 0) := by decide +kernel
theorem alive_2 : encodeV ⟨#[105, 115, 111, 45, 56, 56, 53, 57, 45, 49, 53]⟩ [226, 130, 172] = ([164], 0, 0) := by decide +kernel
theorem alive_3 : encodeV ⟨#[108, 97, 116, 105, 110, 49]⟩ [226, 130, 172] = ([], 0, 10) := by decide +kernel
theorem alive_4 : knownV ⟨#[85, 84, 70, 45, 49, 54, 76, 69]⟩ = true := by decide +kernel
theorem alive_5 : knownV ⟨#[]⟩ = false := by decide +kernel
theorem alive_s : ((strOfNums [226, 130, 172]).toList == [226, 130, 172]) = true := by rw [sn_toList]; decide +kernel
theorem bytes_e : Bytes [226, 130, 172] := by intro x hx; simp at hx; omega
theorem bytes_128 : Bytes [128] := by intro x hx; simp at hx; omega
theorem known_at (s : ByteArray) (b : Bool) (w : World) (hs : s.size ≤ 9223372036854775807) (hb : knownV s = b) :
    Calls Try.prog 12 #[.string s] w fun e w' => e = .returned (.bool b) ∧ Below w.heap.size w w' := hb ▸ known_any s w hs
set_option maxRecDepth 100000 in
set_option maxHeartbeats 4000000 in
theorem alive_any (w : World) : Calls Try.prog 9 #[] w fun e w' => e = .returned (.bool true) ∧ Below w.heap.size w w' := by
  have ss := alive_s
  have HB0 := Lib.hid (below_first (w := w) (.cells #[.int .u8 128] 5))
  have HP := Lib.hid (decode_at ⟨#[87, 105, 110, 100, 111, 119, 115, 45, 49, 50, 53, 50]⟩ (some ⟨w.heap.size, 0, none⟩) [128] 1 1 _ (w.alloc (.cells #[.int .u8 128] 5)) (lit_reads .u8 _ w _ _ _ _ rfl rfl rfl (by simp)) bytes_128 (by decide) (by decide) (by decide) alive_1)
  have HE1 := Lib.hid (fun W A n c h hc => encode_at ⟨#[105, 115, 111, 45, 56, 56, 53, 57, 45, 49, 53]⟩ A [226, 130, 172] n c _ W h bytes_e hc (by decide) (by decide) alive_2)
  have HE2 := Lib.hid (fun W A n c h hc => encode_at ⟨#[108, 97, 116, 105, 110, 49]⟩ A [226, 130, 172] n c _ W h bytes_e hc (by decide) (by decide) alive_3)
  have HK1 := Lib.hid (fun W => known_at ⟨#[85, 84, 70, 45, 49, 54, 76, 69]⟩ _ W (by decide) alive_4)
  have HK2 := Lib.hid (fun W => known_at ⟨#[]⟩ _ W (by decide) alive_5)
  go_enter Try.func9, Try.ntmps9
  go_wp2_with (first
    | (go_at_call 10; ((with_reducible refine HP.out.mono ?_); rintro e w1 ⟨v, rfl, hO, hB⟩; obtain ⟨A1, c1, rfl, hc1, hR1⟩ := (hO.alloc (.cells #[.int .i64 0, .int .i64 0] 26)).reads; have HR1 : Hid (ReadsInt (w1.alloc (.cells #[.int .i64 0, .int .i64 0] 26)) .u8 A1 3 [226, 130, 172]) := Lib.hid hR1; have HC1 : Hid (3 ≤ c1) := Lib.hid hc1; clear hc1; have HB1 := Lib.hid (below_alloc (below_then HB0.out HB0.out.size hB) (.cells #[.int .i64 0, .int .i64 0] 26)); have HG1 := Lib.hid (heap_alloc_new w1 (.cells #[.int .i64 0, .int .i64 0] 26)); clear hO hB hR1))
    | (go_at_call 14; ((with_reducible refine (HE1.out _ _ _ _ HR1.out HC1.out).mono ?_); rintro e w2 ⟨v2, rfl, hO2, hB2⟩; obtain ⟨A2, c2, rfl, hc2, hR2⟩ := (hO2.alloc (.cells #[.int .i64 0, .int .i64 0] 26)).reads; have HR2 : Hid (ReadsInt (w2.alloc (.cells #[.int .i64 0, .int .i64 0] 26)) .u8 A2 1 [164]) := Lib.hid hR2; clear hc2; have HB2 := Lib.hid (below_alloc (below_then HB1.out HB1.out.size hB2) (.cells #[.int .i64 0, .int .i64 0] 26)); have HG2 := Lib.hid (heap_alloc_new w2 (.cells #[.int .i64 0, .int .i64 0] 26)); have HG1 := Lib.hid (blk_below (blk_below HG1.out hB2) (below_first (.cells #[.int .i64 0, .int .i64 0] 26))); have HR1 := Lib.hid ((HR1.out.below hB2).below (below_first (.cells #[.int .i64 0, .int .i64 0] 26))); clear hO2 hB2 hR2))
    | (go_at_call 14; ((with_reducible refine (HE2.out _ _ _ _ HR1.out HC1.out).mono ?_); rintro e w3 ⟨v3, rfl, hO3, hB3⟩; have HB3 := Lib.hid (below_then HB2.out HB2.out.size hB3); have HR3 : ReadsInt (w3.alloc (.cells #[.int .i64 0, .int .i64 10] 26)) .u8 A1 3 [226, 130, 172] := (HR1.out.below hB3).below (below_first _); have kcv := string_of_reads (P := Try.prog) (c := c1) Try.underlying22 Try.underlying5 Try.underlying9 HR3; obtain ⟨ad2, hA2, hcell2⟩ := (HR2.out.below hB3).at_ 0 (by decide) (by decide); rw [show ((0 : Int)).toNat = 0 from rfl, Addr.add_zero'] at hcell2; subst hA2; have hg1 := blk_below HG1.out hB3; have hg2 := blk_below HG2.out hB3; have s1 := blk_lt hg1; have s2 := blk_lt hg2; have s3 := World.block_lt_of_cell? _ _ hcell2; have c10 : w3.cell? ⟨w1.heap.size, 0, none⟩ = some (.int .i64 0) := (blk_cell hg1 0).trans rfl; have c11 : w3.cell? ⟨w1.heap.size, 1, none⟩ = some (.int .i64 0) := (blk_cell hg1 1).trans rfl; have c20 : w3.cell? ⟨w2.heap.size, 0, none⟩ = some (.int .i64 0) := (blk_cell hg2 0).trans rfl; have c21 : w3.cell? ⟨w2.heap.size, 1, none⟩ = some (.int .i64 0) := (blk_cell hg2 1).trans rfl; clear hO3 hB3 hg1 hg2 HR3))
    | (go_at_call 12; ((with_reducible refine (HK1.out _).mono ?_); rintro e w4 ⟨rfl, hB4⟩; have HB4 := Lib.hid (below_then (below_alloc HB3.out _) (below_alloc HB3.out _).size hB4); clear hB4))
    | (go_at_call 12; ((with_reducible refine (HK2.out _).mono ?_); rintro e w5 ⟨rfl, hB5⟩; have HB5 := Lib.hid (below_then HB4.out HB4.out.size hB5); clear hB5)))
  go_ret
  exact ⟨rfl, HB5.out⟩
end Go.Proofs.Ytpbgpbblbohmgaa
