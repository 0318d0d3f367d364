/- The law CharsetBytes. -/
import Derived.Test.YtpbgpbblbohmgaaChLB
import Derived.Test.YtpbgpbblbohmgaaChP2
namespace Go.Proofs.Ytpbgpbblbohmgaa
open Go.RowKit Go.Proofs.YtpbgpbblbohmgaaW.PrintWords

set_option maxRecDepth 100000 in
set_option maxHeartbeats 1000000 in
theorem bytes_early (s : ByteArray) (A : Option Addr) (n c : Nat) (w : World) (hs : s.size ≤ 140737488351232) (hn : n ≤ 9223372036854775807) (h : 100 < s.size ∨ (s.size ≤ 100 ∧ 1000 < n)) :
    Calls Try.prog 7 #[.string s, .slice A n c] w fun e w' => e = .returned (.bool true) ∧ Below w.heap.size w w' := by
  rcases h with h | ⟨h, h2⟩
  all_goals
    go_enter Try.func7, Try.ntmps7
    go_wp2_with (first | (go_at_call 9; ((with_reducible refine (alive_any _).mono ?_); rintro e w1 ⟨rfl, hB1⟩; have HB1 := Lib.hid hB1; clear hB1)))
    go_ret
    exact ⟨rfl, HB1.out⟩
set_option maxRecDepth 100000 in
set_option maxHeartbeats 4000000 in
theorem bytes_bad (s : ByteArray) (A : Option Addr) (l : List Int) (c : Nat) (w : World) (h1' : s.size ≤ 100) (h2' : l.length ≤ 1000) (at_ cd : Int) (hcd : cd ≠ 0) (ha0 : 0 ≤ at_) (ha1 : at_ ≤ l.length)
    (hD : Calls Try.prog 10 #[.string s, .slice A l.length c] w (TxtPost w ([], at_, cd))) :
    Calls Try.prog 7 #[.string s, .slice A l.length c] w fun e w' => e = .returned (.bool true) ∧ Below w.heap.size w w' := by
  have HD := Lib.hid hD
  have b0 : (cd != 0) = true := bne_iff_ne.mpr hcd
  clear hD hcd
  go_enter Try.func7, Try.ntmps7
  go_wp2_with (first
    | (go_at_call 10; ((with_reducible refine HD.out.mono ?_); rintro e w1 ⟨v, rfl, hO, hB⟩; obtain ⟨A1, c1, rfl, hc1, hR1⟩ := hO.reads; have HG1 := Lib.hid (heap_alloc_new w1 (.cells #[.int .i64 at_, .int .i64 cd] 26)); have HB1 := Lib.hid (below_alloc hB (.cells #[.int .i64 at_, .int .i64 cd] 26)); clear hO hB hR1 hc1))
    | (go_at_call 9; ((with_reducible refine (alive_any _).mono ?_); rintro e w3 ⟨rfl, hB3⟩; have hg3 := blk_below HG1.out hB3; have c0 : w3.cell? ⟨w1.heap.size, 0, none⟩ = some (.int .i64 at_) := (blk_cell hg3 0).trans rfl; have HB3 := Lib.hid (below_then HB1.out HB1.out.size hB3); clear hB3 hg3)))
  go_ret
  exact ⟨rfl, HB3.out⟩
theorem at_bt (s : ByteArray) (i : Nat) {d : Nat} (hi : i < s.size) (h : bt s (i : Int) = (d : Int)) : (s[i]'hi).toNat = d := by
  have h2 := bt_at s (i : Int) (by simpa using hi)
  rw [h] at h2
  simp only [Int.toNat_natCast] at h2
  omega
set_option maxRecDepth 100000 in
set_option maxHeartbeats 4000000 in
theorem bytes_six (s : ByteArray) (A : Option Addr) (l x y : List Int) (c : Nat) (w : World) (h1' : s.size ≤ 100) (h2' : l.length ≤ 1000) (hz : s.size = 6) (hb3 : bt s 3 = 45) (hb4 : bt s 4 = 49) (hb5 : bt s 5 = 54)
    (hR : ReadsInt w .u8 A l.length l) (hx : Bytes x) (hy : Bytes y) (hxl : x.length ≤ 1048576) (hyl : y.length ≤ 1048576) (hv : vldV x = true)
    (hD : Calls Try.prog 10 #[.string s, .slice A l.length c] w (TxtPost w (x, 0, 0))) (hE : encodeV s x = (y, 0, 0)) (hD2 : decodeV s y = (x, 0, 0)) :
    Calls Try.prog 7 #[.string s, .slice A l.length c] w fun e w' => e = .returned (.bool true) ∧ Below w.heap.size w w' := by
  have HD := Lib.hid hD
  have HE := Lib.hid (fun W A1 c1 h hc => encode_at s A1 x x.length c1 _ W h hx hc (by omega) hxl hE)
  have HD2 := Lib.hid (fun W A1 c1 h hc => decode_at s A1 y y.length c1 _ W h hy hc (by omega) hyl hD2)
  have HV := Lib.hid (fun W A1 c1 h hc => valid_any A1 x c1 W h hx hc (by omega))
  rw [hv] at HV
  have e3 : (s[3]'(by omega)).toNat = 45 := at_bt s 3 (by omega) hb3
  have e4 : (s[4]'(by omega)).toNat = 49 := at_bt s 4 (by omega) hb4
  have e5 : (s[5]'(by omega)).toNat = 54 := at_bt s 5 (by omega) hb5
  have HR := Lib.hid hR
  clear hb3 hb4 hb5
  clear hD hE hD2 hx hy hxl hyl hv hR
  go_enter Try.func7, Try.ntmps7
  go_wp2_with (first
    | (go_at_call 10; ((with_reducible refine HD.out.mono ?_); rintro e w1 ⟨v, rfl, hO, hB⟩; obtain ⟨A1, c1, rfl, hc1, hR1⟩ := (hO.alloc (.cells #[.int .i64 0, .int .i64 0] 26)).reads; have HR1 : Hid (ReadsInt (w1.alloc (.cells #[.int .i64 0, .int .i64 0] 26)) .u8 A1 x.length x) := Lib.hid hR1; have HC1 : Hid (x.length ≤ c1) := Lib.hid hc1; have HB1 := Lib.hid (below_alloc hB (.cells #[.int .i64 0, .int .i64 0] 26)); clear hO hB hR1 hc1))
    | (go_at_call 14; ((with_reducible refine (HE.out _ _ _ HR1.out HC1.out).mono ?_); rintro e w2 ⟨v2, rfl, hO2, hB2⟩; obtain ⟨A2, c2, rfl, hc2, hR2⟩ := (hO2.alloc (.cells #[.int .i64 0, .int .i64 0] 26)).reads; have HR2 : Hid (ReadsInt (w2.alloc (.cells #[.int .i64 0, .int .i64 0] 26)) .u8 A2 y.length y) := Lib.hid hR2; have HC2 : Hid (y.length ≤ c2) := Lib.hid hc2; have HX2 := Lib.hid (below_alloc hB2 (.cells #[.int .i64 0, .int .i64 0] 26)); have HB2 := Lib.hid (below_then HB1.out HB1.out.size HX2.out); have HR1b := Lib.hid (HR1.out.below HX2.out); clear hO2 hB2 hR2 hc2))
    | (go_at_call 16; ((with_reducible refine (HV.out _ _ _ HR1b.out HC1.out).mono ?_); rintro e w3 ⟨rfl, hB3⟩; have HR1c := Lib.hid (HR1b.out.below hB3); have HR2c := Lib.hid (HR2.out.below hB3); have hg3 := blk_below (heap_alloc_new w2 (.cells #[.int .i64 0, .int .i64 0] 26)) hB3; have k1 : w3.cell? ⟨w2.heap.size, 1, none⟩ = some (.int .i64 0) := (blk_cell hg3 1).trans rfl; have HB3 := Lib.hid (below_then HB2.out HB2.out.size hB3); clear hB3 hg3))
    | (go_at_call 10; ((with_reducible refine (HD2.out _ _ _ HR2c.out HC2.out).mono ?_); rintro e w4 ⟨v4, rfl, hO4, hB4⟩; obtain ⟨A4, c4, rfl, hc4, hR4⟩ := (hO4.alloc (.cells #[.int .i64 0, .int .i64 0] 26)).reads; have HR4 : Hid (ReadsInt (w4.alloc (.cells #[.int .i64 0, .int .i64 0] 26)) .u8 A4 x.length x) := Lib.hid hR4; have HX4 := Lib.hid (below_alloc hB4 (.cells #[.int .i64 0, .int .i64 0] 26)); have HB4 := Lib.hid (below_then HB3.out HB3.out.size HX4.out); have HR1d := Lib.hid (HR1c.out.below HX4.out); have HR2d := Lib.hid (HR2c.out.below HX4.out); clear hO4 hB4 hR4 hc4))
    | (go_at_call 9; ((with_reducible refine (alive_keep _ _ _ _ (heap_alloc_new w4 (.cells #[.int .i64 0, .int .i64 0] 26))).mono ?_); rintro e w5 ⟨rfl, hB5, hb5⟩; have kc1 := string_of_reads (P := Try.prog) (c := c4) Try.underlying22 Try.underlying5 Try.underlying9 (HR4.out.below hB5); have kc2 := string_of_reads (P := Try.prog) (c := c1) Try.underlying22 Try.underlying5 Try.underlying9 (HR1d.out.below hB5); have kc3 := string_of_reads (P := Try.prog) (c := c2) Try.underlying22 Try.underlying5 Try.underlying9 (HR2d.out.below hB5); have kc4 := string_of_reads (P := Try.prog) (c := c) Try.underlying22 Try.underlying5 Try.underlying9 ((HR.out.below HB4.out).below hB5); have k5 : w5.cell? ⟨w4.heap.size, 1, none⟩ = some (.int .i64 0) := (blk_cell hb5 1).trans rfl; have HB5 := Lib.hid (below_then HB4.out HB4.out.size hB5); clear hB5 hb5)))
  go_ret
  exact ⟨rfl, HB5.out⟩
set_option maxRecDepth 100000 in
set_option maxHeartbeats 4000000 in
theorem bytes_off (s : ByteArray) (A : Option Addr) (l x : List Int) (c : Nat) (w : World) (h1' : s.size ≤ 100) (h2' : l.length ≤ 1000) (hz : s.size ≠ 6)
    (hR : ReadsInt w .u8 A l.length l) (hx : Bytes x) (hy : Bytes l) (hxl : x.length ≤ 1048576) (hyl : l.length ≤ 1048576) (hv : vldV x = true)
    (hD : Calls Try.prog 10 #[.string s, .slice A l.length c] w (TxtPost w (x, 0, 0))) (hE : encodeV s x = (l, 0, 0)) (hD2 : decodeV s l = (x, 0, 0)) :
    Calls Try.prog 7 #[.string s, .slice A l.length c] w fun e w' => e = .returned (.bool true) ∧ Below w.heap.size w w' := by
  have HD := Lib.hid hD
  have HE := Lib.hid (fun W A1 c1 h hc => encode_at s A1 x x.length c1 _ W h hx hc (by omega) hxl hE)
  have HD2 := Lib.hid (fun W A1 c1 h hc => decode_at s A1 l l.length c1 _ W h hy hc (by omega) hyl hD2)
  have HV := Lib.hid (fun W A1 c1 h hc => valid_any A1 x c1 W h hx hc (by omega))
  rw [hv] at HV
  have bz : ((s.size : Int) == 6) = false := beq_eq_false_iff_ne.mpr (by omega)
  have HR := Lib.hid hR
  clear hz
  clear hD hE hD2 hx hy hxl hyl hv hR
  go_enter Try.func7, Try.ntmps7
  go_wp2_with (first
    | (go_at_call 10; ((with_reducible refine HD.out.mono ?_); rintro e w1 ⟨v, rfl, hO, hB⟩; obtain ⟨A1, c1, rfl, hc1, hR1⟩ := (hO.alloc (.cells #[.int .i64 0, .int .i64 0] 26)).reads; have HR1 : Hid (ReadsInt (w1.alloc (.cells #[.int .i64 0, .int .i64 0] 26)) .u8 A1 x.length x) := Lib.hid hR1; have HC1 : Hid (x.length ≤ c1) := Lib.hid hc1; have HB1 := Lib.hid (below_alloc hB (.cells #[.int .i64 0, .int .i64 0] 26)); clear hO hB hR1 hc1))
    | (go_at_call 14; ((with_reducible refine (HE.out _ _ _ HR1.out HC1.out).mono ?_); rintro e w2 ⟨v2, rfl, hO2, hB2⟩; obtain ⟨A2, c2, rfl, hc2, hR2⟩ := (hO2.alloc (.cells #[.int .i64 0, .int .i64 0] 26)).reads; have HR2 : Hid (ReadsInt (w2.alloc (.cells #[.int .i64 0, .int .i64 0] 26)) .u8 A2 l.length l) := Lib.hid hR2; have HC2 : Hid (l.length ≤ c2) := Lib.hid hc2; have HX2 := Lib.hid (below_alloc hB2 (.cells #[.int .i64 0, .int .i64 0] 26)); have HB2 := Lib.hid (below_then HB1.out HB1.out.size HX2.out); have HR1b := Lib.hid (HR1.out.below HX2.out); clear hO2 hB2 hR2 hc2))
    | (go_at_call 16; ((with_reducible refine (HV.out _ _ _ HR1b.out HC1.out).mono ?_); rintro e w3 ⟨rfl, hB3⟩; have HR1c := Lib.hid (HR1b.out.below hB3); have HR2c := Lib.hid (HR2.out.below hB3); have hg3 := blk_below (heap_alloc_new w2 (.cells #[.int .i64 0, .int .i64 0] 26)) hB3; have k1 : w3.cell? ⟨w2.heap.size, 1, none⟩ = some (.int .i64 0) := (blk_cell hg3 1).trans rfl; have HB3 := Lib.hid (below_then HB2.out HB2.out.size hB3); clear hB3 hg3))
    | (go_at_call 10; ((with_reducible refine (HD2.out _ _ _ HR2c.out HC2.out).mono ?_); rintro e w4 ⟨v4, rfl, hO4, hB4⟩; obtain ⟨A4, c4, rfl, hc4, hR4⟩ := (hO4.alloc (.cells #[.int .i64 0, .int .i64 0] 26)).reads; have HR4 : Hid (ReadsInt (w4.alloc (.cells #[.int .i64 0, .int .i64 0] 26)) .u8 A4 x.length x) := Lib.hid hR4; have HX4 := Lib.hid (below_alloc hB4 (.cells #[.int .i64 0, .int .i64 0] 26)); have HB4 := Lib.hid (below_then HB3.out HB3.out.size HX4.out); have HR1d := Lib.hid (HR1c.out.below HX4.out); have HR2d := Lib.hid (HR2c.out.below HX4.out); clear hO4 hB4 hR4 hc4))
    | (go_at_call 9; ((with_reducible refine (alive_keep _ _ _ _ (heap_alloc_new w4 (.cells #[.int .i64 0, .int .i64 0] 26))).mono ?_); rintro e w5 ⟨rfl, hB5, hb5⟩; have kc1 := string_of_reads (P := Try.prog) (c := c4) Try.underlying22 Try.underlying5 Try.underlying9 (HR4.out.below hB5); have kc2 := string_of_reads (P := Try.prog) (c := c1) Try.underlying22 Try.underlying5 Try.underlying9 (HR1d.out.below hB5); have kc3 := string_of_reads (P := Try.prog) (c := c2) Try.underlying22 Try.underlying5 Try.underlying9 (HR2d.out.below hB5); have kc4 := string_of_reads (P := Try.prog) (c := c) Try.underlying22 Try.underlying5 Try.underlying9 ((HR.out.below HB4.out).below hB5); have k5 : w5.cell? ⟨w4.heap.size, 1, none⟩ = some (.int .i64 0) := (blk_cell hb5 1).trans rfl; have HB5 := Lib.hid (below_then HB4.out HB4.out.size hB5); clear hB5 hb5)))
  go_ret
  exact ⟨rfl, HB5.out⟩
set_option maxRecDepth 100000 in
set_option maxHeartbeats 4000000 in
theorem bytes_in (s : ByteArray) (A : Option Addr) (l x : List Int) (c : Nat) (w : World) (h1' : s.size ≤ 100) (h2' : l.length ≤ 1000) (hz : s.size = 6)
    (hR : ReadsInt w .u8 A l.length l) (hx : Bytes x) (hy : Bytes l) (hxl : x.length ≤ 1048576) (hyl : l.length ≤ 1048576) (hv : vldV x = true)
    (hD : Calls Try.prog 10 #[.string s, .slice A l.length c] w (TxtPost w (x, 0, 0))) (hE : encodeV s x = (l, 0, 0)) (hD2 : decodeV s l = (x, 0, 0)) :
    Calls Try.prog 7 #[.string s, .slice A l.length c] w fun e w' => e = .returned (.bool true) ∧ Below w.heap.size w w' := by
  have HD := Lib.hid hD
  have HE := Lib.hid (fun W A1 c1 h hc => encode_at s A1 x x.length c1 _ W h hx hc (by omega) hxl hE)
  have HD2 := Lib.hid (fun W A1 c1 h hc => decode_at s A1 l l.length c1 _ W h hy hc (by omega) hyl hD2)
  have HV := Lib.hid (fun W A1 c1 h hc => valid_any A1 x c1 W h hx hc (by omega))
  rw [hv] at HV
  have HR := Lib.hid hR
  clear hD hE hD2 hx hy hxl hyl hv hR
  obtain ⟨d3, e3⟩ : ∃ d, (s[3]'(by omega)).toNat = d := ⟨_, rfl⟩
  obtain ⟨d4, e4⟩ : ∃ d, (s[4]'(by omega)).toNat = d := ⟨_, rfl⟩
  obtain ⟨d5, e5⟩ : ∃ d, (s[5]'(by omega)).toNat = d := ⟨_, rfl⟩
  have hcs : (((d3 : Int) == 45) = false) ∨ (((d3 : Int) == 45) = true ∧ ((d4 : Int) == 49) = false) ∨ (((d3 : Int) == 45) = true ∧ ((d4 : Int) == 49) = true ∧ ((d5 : Int) == 54) = false) ∨ (((d3 : Int) == 45) = true ∧ ((d4 : Int) == 49) = true ∧ ((d5 : Int) == 54) = true) := by
    rcases ((d3 : Int) == 45) with _ | _ <;> rcases ((d4 : Int) == 49) with _ | _ <;> rcases ((d5 : Int) == 54) with _ | _ <;> simp
  rcases hcs with b3 | ⟨b3, b4⟩ | ⟨b3, b4, b5⟩ | ⟨b3, b4, b5⟩
  all_goals
    go_enter Try.func7, Try.ntmps7
    go_wp2_with (first
      | (go_at_call 10; ((with_reducible refine HD.out.mono ?_); rintro e w1 ⟨v, rfl, hO, hB⟩; obtain ⟨A1, c1, rfl, hc1, hR1⟩ := (hO.alloc (.cells #[.int .i64 0, .int .i64 0] 26)).reads; have HR1 : Hid (ReadsInt (w1.alloc (.cells #[.int .i64 0, .int .i64 0] 26)) .u8 A1 x.length x) := Lib.hid hR1; have HC1 : Hid (x.length ≤ c1) := Lib.hid hc1; have HB1 := Lib.hid (below_alloc hB (.cells #[.int .i64 0, .int .i64 0] 26)); clear hO hB hR1 hc1))
      | (go_at_call 14; ((with_reducible refine (HE.out _ _ _ HR1.out HC1.out).mono ?_); rintro e w2 ⟨v2, rfl, hO2, hB2⟩; obtain ⟨A2, c2, rfl, hc2, hR2⟩ := (hO2.alloc (.cells #[.int .i64 0, .int .i64 0] 26)).reads; have HR2 : Hid (ReadsInt (w2.alloc (.cells #[.int .i64 0, .int .i64 0] 26)) .u8 A2 l.length l) := Lib.hid hR2; have HC2 : Hid (l.length ≤ c2) := Lib.hid hc2; have HX2 := Lib.hid (below_alloc hB2 (.cells #[.int .i64 0, .int .i64 0] 26)); have HB2 := Lib.hid (below_then HB1.out HB1.out.size HX2.out); have HR1b := Lib.hid (HR1.out.below HX2.out); clear hO2 hB2 hR2 hc2))
      | (go_at_call 16; ((with_reducible refine (HV.out _ _ _ HR1b.out HC1.out).mono ?_); rintro e w3 ⟨rfl, hB3⟩; have HR1c := Lib.hid (HR1b.out.below hB3); have HR2c := Lib.hid (HR2.out.below hB3); have hg3 := blk_below (heap_alloc_new w2 (.cells #[.int .i64 0, .int .i64 0] 26)) hB3; have k1 : w3.cell? ⟨w2.heap.size, 1, none⟩ = some (.int .i64 0) := (blk_cell hg3 1).trans rfl; have HB3 := Lib.hid (below_then HB2.out HB2.out.size hB3); clear hB3 hg3))
      | (go_at_call 10; ((with_reducible refine (HD2.out _ _ _ HR2c.out HC2.out).mono ?_); rintro e w4 ⟨v4, rfl, hO4, hB4⟩; obtain ⟨A4, c4, rfl, hc4, hR4⟩ := (hO4.alloc (.cells #[.int .i64 0, .int .i64 0] 26)).reads; have HR4 : Hid (ReadsInt (w4.alloc (.cells #[.int .i64 0, .int .i64 0] 26)) .u8 A4 x.length x) := Lib.hid hR4; have HX4 := Lib.hid (below_alloc hB4 (.cells #[.int .i64 0, .int .i64 0] 26)); have HB4 := Lib.hid (below_then HB3.out HB3.out.size HX4.out); have HR1d := Lib.hid (HR1c.out.below HX4.out); have HR2d := Lib.hid (HR2c.out.below HX4.out); clear hO4 hB4 hR4 hc4))
      | (go_at_call 9; ((with_reducible refine (alive_keep _ _ _ _ (heap_alloc_new w4 (.cells #[.int .i64 0, .int .i64 0] 26))).mono ?_); rintro e w5 ⟨rfl, hB5, hb5⟩; have kc1 := string_of_reads (P := Try.prog) (c := c4) Try.underlying22 Try.underlying5 Try.underlying9 (HR4.out.below hB5); have kc2 := string_of_reads (P := Try.prog) (c := c1) Try.underlying22 Try.underlying5 Try.underlying9 (HR1d.out.below hB5); have kc3 := string_of_reads (P := Try.prog) (c := c2) Try.underlying22 Try.underlying5 Try.underlying9 (HR2d.out.below hB5); have kc4 := string_of_reads (P := Try.prog) (c := c) Try.underlying22 Try.underlying5 Try.underlying9 ((HR.out.below HB4.out).below hB5); have k5 : w5.cell? ⟨w4.heap.size, 1, none⟩ = some (.int .i64 0) := (blk_cell hb5 1).trans rfl; have HB5 := Lib.hid (below_then HB4.out HB4.out.size hB5); clear hB5 hb5)))
    go_ret
    exact ⟨rfl, HB5.out⟩
theorem bytes_law (s : ByteArray) (A : Option Addr) (l : List Int) (c : Nat) (w : World) (hs : s.size ≤ 140737488351232) (hr : ReadsInt w .u8 A l.length l) (wl : ∀ n ∈ l, (Lit.int .u8 n).wf = true) (hc : l.length ≤ c) (_ : l.length * 1 ≤ 140737488351232) :
    Calls Try.prog 7 #[.string s, .slice A l.length c] w fun e w' => e = .returned (.bool true) ∧ Below w.heap.size w w' := by
  by_cases h1 : 100 < s.size
  · exact bytes_early s A l.length c w hs hr.2.1 (.inl h1)
  by_cases h2 : 1000 < l.length
  · exact bytes_early s A l.length c w hs hr.2.1 (.inr ⟨by omega, h2⟩)
  have hby := wf_u8 wl
  have hD := decode_any s A l c w hr hby hc (by omega) (by omega)
  by_cases hcd : (decodeV s l).2.2 = 0
  · obtain ⟨x, y, h3, h4, h5, h6, h7, h8, h9, h10, h11⟩ := bytes_plain s l hby hcd
    rw [h3] at hD
    by_cases hf : formV s = 6
    · obtain ⟨g1, g2, g3, g4⟩ := form_six hf
      exact bytes_six s A l x y c w (by omega) (by omega) g1 g2 g3 g4 hr h7 h8 (by omega) (by omega) h6 hD h4 h5
    · have hy := h11 hf
      subst hy
      by_cases hz : s.size = 6
      · exact bytes_in s A y x c w (by omega) (by omega) hz hr h7 h8 (by omega) (by omega) h6 hD h4 h5
      · exact bytes_off s A y x c w (by omega) (by omega) hz hr h7 h8 (by omega) (by omega) h6 hD h4 h5
  · rcases decode_cases s l hby with ⟨ps, _, _, _, _, hv, _⟩ | ⟨g1, _, g2, g3⟩
    · rw [hv] at hcd; exact absurd rfl hcd
    · rcases hv : decodeV s l with ⟨x, at_, cd⟩
      rw [hv] at hD hcd g1 g2 g3
      simp only at hcd g1 g2 g3
      subst g1
      exact bytes_bad s A l c w (by omega) (by omega) at_ cd hcd g2 g3 hD
end Go.Proofs.Ytpbgpbblbohmgaa
