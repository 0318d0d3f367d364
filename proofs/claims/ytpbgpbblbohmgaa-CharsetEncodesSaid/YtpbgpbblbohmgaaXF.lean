/- The document's Put of a set. The document's Encode. -/
import Derived.Test.YtpbgpbblbohmgaaXE
import Derived.RegionTactic
import Derived.BigRegion
namespace Go.Proofs.Ytpbgpbblbohmgaa
open Go.RowKit Go.Proofs.YtpbgpbblbohmgaaW.PrintWords

def RowPost (w : World) (xs : List Int) (e : Ending) (w' : World) : Prop := ∃ v, e = .returned v ∧ ORow .u8 5 w' w.heap.size v xs ∧ Below w.heap.size w w'
set_option maxHeartbeats 1000000 in
theorem two_any (u : Int) (b : Bool) (w : World) (h0 : 0 ≤ u) (h1 : u ≤ 65535) : Calls Try.prog 43 #[.int .i32 u, .bool b] w (RowPost w (put2 u b)) := by
  have e1 : IntKind.u8.wrap (u / 256) = u / 256 := by rw [wraps_u8 _ (by omega) (by omega)]
  cases b
  · go_enter Try.func43, Try.ntmps43
    go_wp2
    go_ret
    exact ⟨_, rfl, ORow.lit .u8 _ _ _ [u / 256, u % 256] _ 2 _ rfl rfl rfl (Nat.le_refl _) (by simp), below_first _⟩
  · go_enter Try.func43, Try.ntmps43
    go_wp2
    go_ret
    exact ⟨_, rfl, ORow.lit .u8 _ _ _ [u % 256, u / 256] _ 2 _ rfl rfl rfl (Nat.le_refl _) (by simp), below_first _⟩
set_option maxRecDepth 100000 in
set_option maxHeartbeats 1000000 in
theorem rq_utf (p : Int) (w : World) (hp : isPt p = true) : Calls Try.prog 31 #[.string ⟨#[117, 116, 102, 45, 56]⟩, .int .i32 p] w (RowPost w (putB p)) := by
  have HC := Lib.hid (rput_ok p w hp)
  generalize putB p = ps at *
  clear hp
  go_enter Try.func31, Try.ntmps31
  go_wp2_with (first
    | (go_at_call 32; ((with_reducible refine HC.out.mono ?_); rintro e w1 ⟨v, rfl, hO1, hB1⟩; have HO1 := Lib.hid hO1; have HB1 := Lib.hid hB1; clear hO1 hB1)))
  go_ret
  exact ⟨_, rfl, HO1.out, HB1.out⟩
set_option maxRecDepth 100000 in
set_option maxHeartbeats 1000000 in
theorem rq_two6 (p : Int) (w : World) (h0 : 0 ≤ p) (h1 : p < 65536) : Calls Try.prog 31 #[.string ⟨#[117, 116, 102, 45, 49, 54]⟩, .int .i32 p] w (RowPost w (put2 p false)) := by
  have HC := Lib.hid (two_any p false w h0 (by omega))
  generalize put2 p false = ps at *
  go_enter Try.func31, Try.ntmps31
  go_wp2_with (first
    | (go_at_call 43; ((with_reducible refine HC.out.mono ?_); rintro e w1 ⟨v, rfl, hO1, hB1⟩; have HO1 := Lib.hid hO1; have HB1 := Lib.hid hB1; clear hO1 hB1)))
  go_ret
  exact ⟨_, rfl, HO1.out, HB1.out⟩
set_option maxRecDepth 100000 in
set_option maxHeartbeats 2000000 in
theorem rq_four6 (p : Int) (w : World) (h0 : 65536 ≤ p) (h1 : p < 1114112) : Calls Try.prog 31 #[.string ⟨#[117, 116, 102, 45, 49, 54]⟩, .int .i32 p] w (RowPost w (put2 (55296 + (p - 65536) / 1024) false ++ put2 (56320 + (p - 65536) % 1024) false)) := by
  have HC := Lib.hid (two_any (55296 + (p - 65536) / 1024) false w (by omega) (by omega))
  have HC2 := Lib.hid (fun W => two_any (56320 + (p - 65536) % 1024) false W (by omega) (by omega))
  have HL := Lib.hid (put2_len (55296 + (p - 65536) / 1024) false)
  have HL2 := Lib.hid (put2_len (56320 + (p - 65536) % 1024) false)
  generalize put2 (55296 + (p - 65536) / 1024) false = ps at *
  generalize put2 (56320 + (p - 65536) % 1024) false = qs at *
  go_enter Try.func31, Try.ntmps31
  go_wp2_with (first
    | (go_at_call 43; ((with_reducible refine HC.out.mono ?_); rintro e w1 ⟨v, rfl, hO1, hB1⟩; have HO1 := Lib.hid hO1; have HB1 := Lib.hid hB1; clear hO1 hB1))
    | (go_at_call 43; ((with_reducible refine (HC2.out _).mono ?_); rintro e w2 ⟨v2, rfl, hO2, hB2⟩; obtain ⟨A2, c2, rfl, hc2, hR2⟩ := hO2.reads; have HR2 := Lib.hid hR2; have HO1b := Lib.hid (HO1.out.below hB2); have HB2 := Lib.hid (below_then HB1.out HB1.out.size hB2); have HSZ : Hid (w.heap.size ≤ w2.heap.size) := Lib.hid HB2.out.size; clear hO2 hB2 hR2 hc2))
    | (at_builtin; refine print_append_row (w0 := w) w.heap.size rfl (.tmp 39) (.tmp 45) 22 5 .u8 1 rfl Try.underlying22 infoU8 (by decide) _ ps qs _ _ _ rfl rfl HO1b.out HR2.out HB2.out HSZ.out (by have := HL.out; have := HL2.out; omega) ?_; intro v1 w3 hO3 hB3 _ _; have HO3 := Lib.hid hO3; have HB3 := Lib.hid hB3; clear hO3 hB3))
  go_ret
  exact ⟨_, rfl, HO3.out, HB3.out⟩
set_option maxRecDepth 100000 in
set_option maxHeartbeats 1000000 in
theorem rq_two7 (p : Int) (w : World) (h0 : 0 ≤ p) (h1 : p < 65536) : Calls Try.prog 31 #[.string ⟨#[117, 116, 102, 45, 49, 54, 98, 101]⟩, .int .i32 p] w (RowPost w (put2 p false)) := by
  have HC := Lib.hid (two_any p false w h0 (by omega))
  generalize put2 p false = ps at *
  go_enter Try.func31, Try.ntmps31
  go_wp2_with (first
    | (go_at_call 43; ((with_reducible refine HC.out.mono ?_); rintro e w1 ⟨v, rfl, hO1, hB1⟩; have HO1 := Lib.hid hO1; have HB1 := Lib.hid hB1; clear hO1 hB1)))
  go_ret
  exact ⟨_, rfl, HO1.out, HB1.out⟩
set_option maxRecDepth 100000 in
set_option maxHeartbeats 2000000 in
theorem rq_four7 (p : Int) (w : World) (h0 : 65536 ≤ p) (h1 : p < 1114112) : Calls Try.prog 31 #[.string ⟨#[117, 116, 102, 45, 49, 54, 98, 101]⟩, .int .i32 p] w (RowPost w (put2 (55296 + (p - 65536) / 1024) false ++ put2 (56320 + (p - 65536) % 1024) false)) := by
  have HC := Lib.hid (two_any (55296 + (p - 65536) / 1024) false w (by omega) (by omega))
  have HC2 := Lib.hid (fun W => two_any (56320 + (p - 65536) % 1024) false W (by omega) (by omega))
  have HL := Lib.hid (put2_len (55296 + (p - 65536) / 1024) false)
  have HL2 := Lib.hid (put2_len (56320 + (p - 65536) % 1024) false)
  generalize put2 (55296 + (p - 65536) / 1024) false = ps at *
  generalize put2 (56320 + (p - 65536) % 1024) false = qs at *
  go_enter Try.func31, Try.ntmps31
  go_wp2_with (first
    | (go_at_call 43; ((with_reducible refine HC.out.mono ?_); rintro e w1 ⟨v, rfl, hO1, hB1⟩; have HO1 := Lib.hid hO1; have HB1 := Lib.hid hB1; clear hO1 hB1))
    | (go_at_call 43; ((with_reducible refine (HC2.out _).mono ?_); rintro e w2 ⟨v2, rfl, hO2, hB2⟩; obtain ⟨A2, c2, rfl, hc2, hR2⟩ := hO2.reads; have HR2 := Lib.hid hR2; have HO1b := Lib.hid (HO1.out.below hB2); have HB2 := Lib.hid (below_then HB1.out HB1.out.size hB2); have HSZ : Hid (w.heap.size ≤ w2.heap.size) := Lib.hid HB2.out.size; clear hO2 hB2 hR2 hc2))
    | (at_builtin; refine print_append_row (w0 := w) w.heap.size rfl (.tmp 39) (.tmp 45) 22 5 .u8 1 rfl Try.underlying22 infoU8 (by decide) _ ps qs _ _ _ rfl rfl HO1b.out HR2.out HB2.out HSZ.out (by have := HL.out; have := HL2.out; omega) ?_; intro v1 w3 hO3 hB3 _ _; have HO3 := Lib.hid hO3; have HB3 := Lib.hid hB3; clear hO3 hB3))
  go_ret
  exact ⟨_, rfl, HO3.out, HB3.out⟩
set_option maxRecDepth 100000 in
set_option maxHeartbeats 1000000 in
theorem rq_two8 (p : Int) (w : World) (h0 : 0 ≤ p) (h1 : p < 65536) : Calls Try.prog 31 #[.string ⟨#[117, 116, 102, 45, 49, 54, 108, 101]⟩, .int .i32 p] w (RowPost w (put2 p true)) := by
  have HC := Lib.hid (two_any p true w h0 (by omega))
  generalize put2 p true = ps at *
  go_enter Try.func31, Try.ntmps31
  go_wp2_with (first
    | (go_at_call 43; ((with_reducible refine HC.out.mono ?_); rintro e w1 ⟨v, rfl, hO1, hB1⟩; have HO1 := Lib.hid hO1; have HB1 := Lib.hid hB1; clear hO1 hB1)))
  go_ret
  exact ⟨_, rfl, HO1.out, HB1.out⟩
set_option maxRecDepth 100000 in
set_option maxHeartbeats 2000000 in
theorem rq_four8 (p : Int) (w : World) (h0 : 65536 ≤ p) (h1 : p < 1114112) : Calls Try.prog 31 #[.string ⟨#[117, 116, 102, 45, 49, 54, 108, 101]⟩, .int .i32 p] w (RowPost w (put2 (55296 + (p - 65536) / 1024) true ++ put2 (56320 + (p - 65536) % 1024) true)) := by
  have HC := Lib.hid (two_any (55296 + (p - 65536) / 1024) true w (by omega) (by omega))
  have HC2 := Lib.hid (fun W => two_any (56320 + (p - 65536) % 1024) true W (by omega) (by omega))
  have HL := Lib.hid (put2_len (55296 + (p - 65536) / 1024) true)
  have HL2 := Lib.hid (put2_len (56320 + (p - 65536) % 1024) true)
  generalize put2 (55296 + (p - 65536) / 1024) true = ps at *
  generalize put2 (56320 + (p - 65536) % 1024) true = qs at *
  go_enter Try.func31, Try.ntmps31
  go_wp2_with (first
    | (go_at_call 43; ((with_reducible refine HC.out.mono ?_); rintro e w1 ⟨v, rfl, hO1, hB1⟩; have HO1 := Lib.hid hO1; have HB1 := Lib.hid hB1; clear hO1 hB1))
    | (go_at_call 43; ((with_reducible refine (HC2.out _).mono ?_); rintro e w2 ⟨v2, rfl, hO2, hB2⟩; obtain ⟨A2, c2, rfl, hc2, hR2⟩ := hO2.reads; have HR2 := Lib.hid hR2; have HO1b := Lib.hid (HO1.out.below hB2); have HB2 := Lib.hid (below_then HB1.out HB1.out.size hB2); have HSZ : Hid (w.heap.size ≤ w2.heap.size) := Lib.hid HB2.out.size; clear hO2 hB2 hR2 hc2))
    | (at_builtin; refine print_append_row (w0 := w) w.heap.size rfl (.tmp 39) (.tmp 45) 22 5 .u8 1 rfl Try.underlying22 infoU8 (by decide) _ ps qs _ _ _ rfl rfl HO1b.out HR2.out HB2.out HSZ.out (by have := HL.out; have := HL2.out; omega) ?_; intro v1 w3 hO3 hB3 _ _; have HO3 := Lib.hid hO3; have HB3 := Lib.hid hB3; clear hO3 hB3))
  go_ret
  exact ⟨_, rfl, HO3.out, HB3.out⟩
set_option maxRecDepth 100000 in
set_option maxHeartbeats 2000000 in
theorem rq_single (f p : Int) (w : World) (hf : Single f) : Calls Try.prog 31 #[.string (nameF f), .int .i32 p] w (RowPost w (if byteV f p < 0 then [] else [byteV f p])) := by
  have HOC := Lib.hid (fun ch W (h0 : 0 ≤ ch) (h1 : ch ≤ 255) => one_any f ch W hf h0 h1)
  have n2 : ((nameF f).toList == [117, 116, 102, 45, 56]) = false := by rcases hf with rfl | rfl | rfl | rfl <;> decide +kernel
  have n7 : ((nameF f).toList == [117, 116, 102, 45, 49, 54, 98, 101]) = false := by rcases hf with rfl | rfl | rfl | rfl <;> decide +kernel
  have n8 : ((nameF f).toList == [117, 116, 102, 45, 49, 54, 108, 101]) = false := by rcases hf with rfl | rfl | rfl | rfl <;> decide +kernel
  have n6 : ((nameF f).toList == [117, 116, 102, 45, 49, 54]) = false := by rcases hf with rfl | rfl | rfl | rfl <;> decide +kernel
  have HV : Hid (byteV f p = byteF f p 256 0) := Lib.hid rfl
  obtain ⟨R, hR⟩ : ∃ R, (if byteV f p < 0 then [] else [byteV f p] : List Int) = R := ⟨_, rfl⟩
  rw [hR]
  have HRR := Lib.hid hR
  clear hR
  generalize byteV f p = V at *
  generalize nameF f = nm at *
  clear hf
  go_enter Try.func31, Try.ntmps31
  go_wp2
  go_loopw [8] (fun s8 wr => ∃ n : Nat, n ≤ 256 ∧ s8 = .int .i64 n ∧ Hid (Below w.heap.size w wr) ∧ Hid (V = byteF f p (256 - n) n)) (fun s8 _ => 256 - (intOf s8).toNat)
  case atStart => exact ⟨0, by omega, rfl, Lib.hid (Below.refl _ _), HV⟩
  case round =>
    obtain ⟨n, hn, rfl, HB, HN⟩ := hrel
    have hn0 : (0 : Int) ≤ (n : Int) := Int.natCast_nonneg _
    by_cases hlt : n < 256
    · have hn1 : (n : Int) < 256 := by omega
      have HC := Lib.hid (HOC.out (n : Int) wr (by omega) (by omega))
      have HST : Hid (byteF f p (256 - n) n = if pointV f (n : Int) = p then (n : Int) else byteF f p (256 - (n + 1)) (n + 1)) := Lib.hid (by rw [show 256 - n = (256 - (n + 1)) + 1 by omega, byteF])
      generalize pointV f (n : Int) = q at *
      by_cases hq : q = p
      · have b1 : (q == p) = true := beq_iff_eq.mpr hq
        have HV2 : Hid (V = (n : Int)) := Lib.hid (by rw [HN.out, HST.out, if_pos hq])
        clear hq
        go_wp2_with (go_at_call 37; ((with_reducible refine HC.out.mono ?_); rintro e w1 ⟨rfl, hB⟩; have HB1 := Lib.hid (below_then HB.out HB.out.size hB); clear hB))
        go_ret
        refine ⟨_, rfl, ?_, below_alloc HB1.out _⟩
        rw [← HRR.out, HV2.out, if_neg (by omega)]
        exact ORow.lit .u8 _ _ _ [(n : Int)] _ 1 _ rfl rfl rfl HB1.out.size (by simp)
      · have b1 : (q == p) = false := beq_eq_false_iff_ne.mpr hq
        have HV2 : Hid (V = byteF f p (256 - (n + 1)) (n + 1)) := Lib.hid (by rw [HN.out, HST.out, if_neg hq])
        clear hq
        go_wp2_with (go_at_call 37; ((with_reducible refine HC.out.mono ?_); rintro e w1 ⟨rfl, hB⟩; have HB1 := Lib.hid (below_then HB.out HB.out.size hB); clear hB))
        go_roundw
        case rel => exact ⟨n + 1, by omega, by go_num, HB1, HV2⟩
        case measure => simp [intOf]; omega
    · obtain rfl : n = 256 := by omega
      go_wp2
      go_ret
      refine ⟨_, rfl, ?_, HB.out⟩
      rw [← HRR.out, HN.out, show byteF f p (256 - 256) 256 = -1 from rfl, if_pos (by decide)]
      exact ORow.nil _ _ _ _
theorem rq_any (f p : Int) (w : World) (hf : Single f ∨ f = 2 ∨ Wide f) (hp : isPt p = true) : Calls Try.prog 31 #[.string (nameF f), .int .i32 p] w (RowPost w ((writeV f p).getD [])) := by
  have hb := isPt_bd hp
  rcases hf with hf | rfl | hf
  · rw [writeV_single hf]
    have h := rq_single f p w hf
    by_cases hv : byteV f p < 0
    · rw [if_pos hv] at h ⊢; exact h
    · rw [if_neg hv] at h ⊢; exact h
  · have e : (writeV 2 p).getD [] = putB p := by simp [writeV]
    rw [e]; exact rq_utf p w hp
  · rw [writeV_wide hf, Option.getD_some]
    rcases hf with rfl | rfl | rfl
    · by_cases hlt : p < 65536
      · rw [if_pos hlt]; exact rq_two6 p w hb.1 hlt
      · rw [if_neg hlt]; exact rq_four6 p w (by omega) (by omega)
    · by_cases hlt : p < 65536
      · rw [if_pos hlt]; exact rq_two7 p w hb.1 hlt
      · rw [if_neg hlt]; exact rq_four7 p w (by omega) (by omega)
    · by_cases hlt : p < 65536
      · rw [if_pos hlt]; exact rq_two8 p w hb.1 hlt
      · rw [if_neg hlt]; exact rq_four8 p w (by omega) (by omega)
theorem writeV_pos {f p : Int} {bs : List Int} (hp : isPt p = true) (h : writeV f p = some bs) : 1 ≤ bs.length := by
  unfold writeV at h
  have h2 := put2_len p (f == 8)
  have h3 := put2_len (55296 + (p - 65536) / 1024) (f == 8)
  have h4 := putB_pos p hp
  repeat' split at h
  all_goals first
    | (injection h with h; subst h; first | exact h4 | (simp only [List.length_append]; omega) | omega | simp)
    | cases h
end Go.Proofs.Ytpbgpbblbohmgaa
namespace Go.Proofs.Ytpbgpbblbohmgaa
open Go.RowKit Go.Proofs.YtpbgpbblbohmgaaW.PrintWords
theorem app_step {base : Nat} {w w1 : World} {v0 u : Value} {xs us : List Int} {g t : Nat} {cs : Array Value} (h0 : ORow .u8 5 w base v0 xs) (hg : w.grownBy w1 v0.ownBlock) (hF : w.heap[g]? = some (.cells cs t (0, 0))) (ht : 5 ≠ t) (hP : ORow .i32 21 w base u us) :
    w1.heap[g]? = some (.cells cs t (0, 0)) ∧ ORow .i32 21 w1 base u us := by
  refine ⟨(hg.block g (blk_lt hF) (own_ne h0 hF ht)).trans hF, hP.keep_ fun k hk => hg.block k (hP.lt k hk).2 ?_⟩
  rcases own_type_ne hP h0 (by decide) with e | e
  · rw [e] at hk; cases hk
  · rw [hk] at e; exact e
theorem nameF_six {f : Int} (hf : Single f ∨ f = 2 ∨ Wide f) : ((nameF f).toList == [117, 116, 102, 45, 49, 54]) = (f == 6) := by
  rcases hf with hf | rfl | hf
  · rcases hf with rfl | rfl | rfl | rfl <;> decide +kernel
  · decide +kernel
  · rcases hf with rfl | rfl | rfl <;> decide +kernel
set_option maxRecDepth 100000 in
set_option maxHeartbeats 1000000 in
theorem rencode_no (s : ByteArray) (A : Option Addr) (l : List Int) (c : Nat) (w : World) (hs : s.size ≤ 4194304) (hf : formV s = 0) :
    Calls Try.prog 17 #[.string s, .slice A l.length c] w (TxtPost w (encodeV s l)) := by
  have HD : Hid (encodeV s l = ([], 0, 143)) := Lib.hid (by rw [encodeV, if_pos hf])
  have HC := Lib.hid (fun W => rset_any s W hs)
  rw [hf, show nameF 0 = ⟨#[]⟩ by decide +kernel] at HC
  clear hf
  go_enter Try.func17, Try.ntmps17
  go_wp2_with (first
    | (go_at_call 13; ((with_reducible refine (HC.out _).mono ?_); rintro e w1 ⟨rfl, hB⟩; have HF1 := Lib.hid (blk_below (heap_alloc_new w (.cells #[.int .i64 0, .int .i64 0] 26)) hB); have HB1 := Lib.hid (below_then (below_first _) (below_first _).size hB); have c0 : w1.cell? ⟨w.heap.size, 0, none⟩ = some (.int .i64 0) := (blk_cell HF1.out 0).trans rfl; have c1 : w1.cell? ⟨w.heap.size, 1, none⟩ = some (.int .i64 0) := (blk_cell HF1.out 1).trans rfl; have z0 := blk_frozen HF1.out 0; have z1 := blk_frozen HF1.out 1; clear hB)))
  have HF2 := blk_set (blk_set HF1.out 0 (.int .i64 0)) 1 (.int .i64 143)
  refine bodyPost_ret (results_tc rfl _ _ _ _ _ _ _ rfl HF2 Try.underlying26 rfl (by kernel_rfl)) rfl ?_
  rw [HD.out]
  exact ⟨_, rfl, ORow.nil _ _ _ _, below_set (below_set HB1.out (Nat.le_refl _)) (Nat.le_refl _)⟩
set_option maxRecDepth 100000 in
set_option maxHeartbeats 1000000 in
theorem rencode_bad (s : ByteArray) (A : Option Addr) (l : List Int) (c : Nat) (w : World) (hr : ReadsInt w .u8 A l.length l) (hby : Bytes l) (hc : l.length ≤ c) (hs : s.size ≤ 4194304) (hl : l.length ≤ 1048576) (hf : formV s ≠ 0) (hcd : (ptsV l).2.2 ≠ 0) :
    Calls Try.prog 17 #[.string s, .slice A l.length c] w (TxtPost w (encodeV s l)) := by
  have HC := Lib.hid (fun W => rset_any s W hs)
  have HP := Lib.hid (fun W h => rpoints_any A l c W h hby hc (by omega))
  have HD2 : Hid (encodeV s l = ([], (ptsV l).2.1, (ptsV l).2.2)) := Lib.hid (by rw [encodeV, if_neg hf, if_neg hcd])
  have HR := Lib.hid hr
  obtain ⟨n1, n2⟩ := nameF_ne (form_set hf)
  have hlb : (l.length : Int) ≤ 1048576 := by omega
  generalize nameF (formV s) = nm at *
  generalize ptsV l = r at *
  obtain ⟨ps, at_, cd⟩ := r
  simp only at hcd HD2
  have b0 : (cd != 0) = true := bne_iff_ne.mpr hcd
  have b1 : (cd == 0) = false := beq_eq_false_iff_ne.mpr hcd
  clear hf hr hby hl hcd
  go_enter Try.func17, Try.ntmps17
  go_wp2_with (first
    | (go_at_call 13; ((with_reducible refine (HC.out _).mono ?_); rintro e w1 ⟨rfl, hB⟩; have HF1 := Lib.hid (blk_below (heap_alloc_new w (.cells #[.int .i64 0, .int .i64 0] 26)) hB); have HB1 := Lib.hid (below_then (below_first _) (below_first _).size hB); clear hB))
    | (go_at_call 30; ((with_reducible refine (HP.out _ (HR.out.below HB1.out)).mono ?_); rintro e w2 ⟨v, rfl, hO, hB⟩; have HF2 := Lib.hid (blk_below HF1.out hB); have hszz : w.heap.size < w2.heap.size := blk_lt HF2.out; have d0 : w2.cell? ⟨w.heap.size, 0, none⟩ = some (.int .i64 0) := (blk_cell HF2.out 0).trans rfl; have d1 : w2.cell? ⟨w.heap.size, 1, none⟩ = some (.int .i64 0) := (blk_cell HF2.out 1).trans rfl; have z0 := blk_frozen HF2.out 0; have z1 := blk_frozen HF2.out 1; have HB2 := Lib.hid (below_then HB1.out HB1.out.size hB); clear hO hB)))
  go_region
  go_wp2
  have HF6 := blk_below (blk_set (blk_set HF2.out 0 (.int .i64 at_)) 1 (.int .i64 cd)) (below_first (.cells #[.int .i64 at_, .int .i64 cd] 26))
  refine bodyPost_ret (results_tc rfl _ _ _ _ _ _ _ rfl HF6 Try.underlying26 rfl (by kernel_rfl)) rfl ?_
  rw [HD2.out]
  exact ⟨_, rfl, ORow.nil _ _ _ _, b_drew (below_alloc (below_set (below_set HB2.out (Nat.le_refl _)) (Nat.le_refl _)) _)⟩
set_option maxRecDepth 100000 in
set_option maxHeartbeats 8000000 in
theorem rencode_main (s : ByteArray) (A : Option Addr) (l : List Int) (c : Nat) (w : World) (hr : ReadsInt w .u8 A l.length l) (hby : Bytes l) (hc : l.length ≤ c) (hs : s.size ≤ 4194304) (hl : l.length ≤ 1048576) (hf : formV s ≠ 0) (hcd : (ptsV l).2.2 = 0) :
    Calls Try.prog 17 #[.string s, .slice A l.length c] w (TxtPost w (encodeV s l)) := by
  have HC := Lib.hid (fun W => rset_any s W hs)
  have HP := Lib.hid (fun W h => rpoints_any A l c W h hby hc (by omega))
  have hv : vldV l = true := by
    rw [ptsV_code] at hcd
    cases h : vldV l with
    | true => rfl
    | false => rw [h] at hcd; simp at hcd
  obtain ⟨ps, hps, hle, hpv⟩ := ptsV_valid l hby hv
  have hpl : ps.length ≤ l.length := by
    have h := dec_len l.length l
    have e : (ptsV l).1.length ≤ l.length := by rw [ptsV_res]; exact resV_len h
    rw [hpv] at e; exact e
  have HD : Hid (encodeV s l = resE (formV s) (encF (formV s) ps)) := Lib.hid (by rw [encodeV, if_neg hf, if_pos hcd, hpv])
  have HR := Lib.hid hr
  rw [hpv] at HP
  have HALL := Lib.hid hps
  have hpl2 : ps.length ≤ 1048576 := by omega
  have HF0 := Lib.hid (form_set hf)
  obtain ⟨n1, n2⟩ := nameF_ne (form_set hf)
  have n6 := nameF_six (form_set hf)
  have hlb : (l.length : Int) ≤ 1048576 := by omega
  generalize formV s = f at *
  generalize encodeV s l = V at *
  clear hf hr hby hl hcd hv hle hpv hpl hps
  have hcase : f = 6 ∨ f ≠ 6 := by omega
  rcases hcase with h6 | h6
  · have HBM : Hid (bomV f = [254, 255]) := Lib.hid (by rw [bomV, if_pos h6])
    have b6 : ((nameF f).toList == [117, 116, 102, 45, 49, 54]) = true := by rw [n6]; exact beq_iff_eq.mpr h6
    have HNM : Hid (nameF f = nameF f) := Lib.hid rfl
    clear h6 n6
    have C1 : Hid (#[Value.int .u8 254, Value.int .u8 255] = (nums .u8 (bomV f)).toArray) := Lib.hid (by rw [HBM.out]; rfl)
    have C2 : Hid (2 = (bomV f).length) := Lib.hid (by rw [HBM.out]; rfl)
    have C3 : Hid ((bomV f).length ≤ 9223372036854775807) := Lib.hid (by rw [HBM.out]; decide)
    go_enter Try.func17, Try.ntmps17
    go_wp2_with (first
      | (go_at_call 13; ((with_reducible refine (HC.out _).mono ?_); rintro e w1 ⟨rfl, hB⟩; have HF1 := Lib.hid (blk_below (heap_alloc_new w (.cells #[.int .i64 0, .int .i64 0] 26)) hB); have HB1 := Lib.hid (below_then (below_first _) (below_first _).size hB); clear hB))
      | (go_at_call 30; ((with_reducible refine (HP.out _ (HR.out.below HB1.out)).mono ?_); rintro e w2 ⟨v, rfl, hO, hB⟩; obtain ⟨A2, c2, rfl, hc2, hRx⟩ := hO.reads; clear hRx hc2; have HF5 := Lib.hid (blk_below (blk_below HF1.out hB) (below_first (.cells #[.int .i64 0, .int .i64 0] 26))); have HP5 := Lib.hid ((ORow.lower (base' := w.heap.size) hO HB1.out.size).alloc (.cells #[.int .i64 0, .int .i64 0] 26)); have HB5 := Lib.hid (below_alloc (below_then HB1.out HB1.out.size hB) (.cells #[.int .i64 0, .int .i64 0] 26)); clear hO hB))
      | (at_builtin; refine print_append_row (w0 := w) w.heap.size rfl (.tmp 34) (.tmp 35) 22 5 .u8 1 rfl Try.underlying22 infoU8 (by decide) _ [] (bomV f) _ 2 2 rfl rfl (ORow.nil _ _ _ _) (lit_reads .u8 _ (w2.alloc (.cells #[.int .i64 0, .int .i64 0] 26)) (bomV f) _ 2 _ (by simp) C1.out C2.out C3.out) (below_alloc HB5.out _) (Nat.le_trans HB5.out.size (below_first _).size) (by decide) ?_; intro v3 w3 hO3 hB3 hg3 _; have HO9 : Hid (ORow .u8 5 w3 w.heap.size v3 (bomV f)) := Lib.hid hO3; have hst := app_step (ORow.nil .u8 5 ((w2.alloc (.cells #[.int .i64 0, .int .i64 0] 26)).alloc (.cells #[.int .u8 254, .int .u8 255] 5)) w.heap.size) hg3 (blk_below HF5.out (below_first (.cells #[.int .u8 254, .int .u8 255] 5))) (by decide) (HP5.out.alloc (.cells #[.int .u8 254, .int .u8 255] 5)); have HF9 := Lib.hid hst.1; have HP9 := Lib.hid hst.2; have HB9 : Hid (Below w.heap.size w w3) := Lib.hid hB3; clear hO3 hB3 hg3 hst))
    go_loopw [8, 9, 10] (fun s9 s10 s42 wr => ∃ (acc : List Int) (at_ n : Nat), n ≤ ps.length ∧ s42 = .int .i64 n ∧ s10 = .int .i64 at_ ∧ at_ ≤ 4 * n ∧ Hid (ORow .u8 5 wr w.heap.size s9 (bomV f ++ acc)) ∧ Hid (wr.heap[w.heap.size]? = some (.cells #[.int .i64 0, .int .i64 0] 26 (0, 0))) ∧ Hid (Below w.heap.size w wr) ∧ Hid (ORow .i32 21 wr w.heap.size (.slice A2 ps.length c2) ps) ∧ Hid (encF f ps = joinD acc at_ (encF f (ps.drop n))) ∧ Hid (acc.length ≤ 4 * n)) (fun _ _ s42 _ => ps.length - (intOf s42).toNat)
    case atStart => exact ⟨[], 0, 0, Nat.zero_le _, rfl, rfl, Nat.le_refl _, Lib.hid (by rw [List.append_nil]; exact HO9.out), HF9, HB9, HP9, Lib.hid (by simp [joinD]), Lib.hid (Nat.zero_le _)⟩
    case round =>
      obtain ⟨acc, at_, n, hn, rfl, rfl, hat, HO, HF, HB, HPS, HDD, HA⟩ := hrel
      have HW : Hid (w.heap.size ≤ wr.heap.size) := Lib.hid HB.out.size
      have HBL : Hid ((bomV f).length ≤ 2) := Lib.hid (by unfold bomV; split <;> simp)
      by_cases hlt : n < ps.length
      · obtain ⟨ad, hA2, hcell⟩ := (own_reads' HPS.out).at_ (n : Int) (by omega) (by omega)
        subst hA2
        simp only [Int.toNat_natCast] at hcell
        have HEX : Hid (ps.drop n = rd ps (n : Int) :: ps.drop (n + 1)) := Lib.hid (by rw [rd_lt ps n hlt]; exact List.drop_eq_getElem_cons hlt)
        have HPT : Hid (isPt (rd ps (n : Int)) = true) := Lib.hid (by rw [rd_lt ps n hlt]; exact HALL.out _ (List.getElem_mem hlt))
        obtain ⟨p, hp⟩ : ∃ p, rd ps (n : Int) = p := ⟨_, rfl⟩
        have HRD := Lib.hid hp
        rw [hp] at hcell HEX HPT
        clear hp
        have hlen : (bomV f ++ acc).length ≤ 17592186044416 := by have := HA.out; have := HBL.out; rw [List.length_append]; omega
        have HCP := Lib.hid (fun W => rput_ok p W HPT.out)
        have HPB := Lib.hid (putB_len p)
        have HCQ := Lib.hid (rq_any f p wr HF0.out HPT.out)
        unfold RowPost at HCQ
        rcases hwv : writeV f p with _ | bs
        · rw [hwv] at HCQ
          have HV2 : Hid (V = ([], (at_ : Int), 10)) := Lib.hid (by
            rw [HD.out]
            have h2 := HDD.out
            rw [HEX.out, encF_none hwv] at h2
            simp [resE, h2, joinD])
          have HNM2 := HNM
          generalize hnm : nameF f = nm at *
          clear hnm hwv hlen
          go_wp2_with (first
            | (go_at_call 31; ((with_reducible refine HCQ.out.mono ?_); rintro e w4 ⟨v4, rfl, hO4, hB4⟩; obtain ⟨A4, c4, rfl, _, _⟩ := hO4.reads; have HF4 := Lib.hid (blk_below HF.out hB4); have HB4 := Lib.hid (below_then HB.out HW.out hB4); have c0 : w4.cell? ⟨w.heap.size, 0, none⟩ = some (.int .i64 0) := (blk_cell HF4.out 0).trans rfl; have c1 : w4.cell? ⟨w.heap.size, 1, none⟩ = some (.int .i64 0) := (blk_cell HF4.out 1).trans rfl; have z0 := blk_frozen HF4.out 0; have z1 := blk_frozen HF4.out 1; clear hO4 hB4)))
          have HF8 := blk_set (blk_set HF4.out 0 (.int .i64 (at_ : Int))) 1 (.int .i64 10)
          refine bodyPost_ret (results_tc rfl _ _ _ _ _ _ _ rfl HF8 Try.underlying26 rfl (by kernel_rfl)) rfl ?_
          rw [HV2.out]
          exact ⟨_, rfl, ORow.nil _ _ _ _, below_set (below_set HB4.out (Nat.le_refl _)) (Nat.le_refl _)⟩
        · rw [hwv, Option.getD_some] at HCQ
          have HD2 : Hid (encF f ps = joinD (acc ++ bs) (at_ + (putB p).length) (encF f (ps.drop (n + 1)))) := Lib.hid (by rw [HDD.out, HEX.out, encF_some hwv, joinD_joinD])
          have HBS := Lib.hid (writeV_len hwv)
          have hbs := writeV_pos HPT.out hwv
          have hbs2 : ((bs.length : Int) == 0) = false := beq_eq_false_iff_ne.mpr (by omega)
          have HLEN := Lib.hid hlen
          generalize hnm : nameF f = nm at *
          clear hnm hwv hlen HDD HEX hbs
          generalize putB p = pb at *
          have hpb : pb.length ≤ 4 := HPB.out
          go_wp2_with (first
            | (go_at_call 31; ((with_reducible refine HCQ.out.mono ?_); rintro e w4 ⟨v4, rfl, hO4, hB4⟩; obtain ⟨A4, c4, rfl, _, hR4⟩ := hO4.reads; have HR4 := Lib.hid hR4; have HO4 := Lib.hid (HO.out.below hB4); have HF4 := Lib.hid (blk_below HF.out hB4); have HP4 := Lib.hid (HPS.out.below hB4); have HB4 := Lib.hid (below_then HB.out HW.out hB4); have HW4 : Hid (w.heap.size ≤ w4.heap.size) := Lib.hid HB4.out.size; clear hO4 hB4 hR4))
            | (at_builtin; refine print_append_row (w0 := w) w.heap.size rfl (.tmp 54) (.tmp 55) 22 5 .u8 1 rfl Try.underlying22 infoU8 (by decide) _ (bomV f ++ acc) bs _ _ _ rfl rfl HO4.out HR4.out HB4.out HW4.out (by have := HLEN.out; have := HBS.out; omega) ?_; intro v1 w5 hO5 hB5 hg5 hat5; have hst := app_step HO4.out hg5 HF4.out (by decide) HP4.out; have HO5 : Hid (ORow .u8 5 w5 w.heap.size v1 (bomV f ++ acc ++ bs)) := Lib.hid hO5; have HF5 := Lib.hid hst.1; have HP5 := Lib.hid hst.2; have HB5 := Lib.hid hB5; have HW5 : Hid (w.heap.size ≤ w5.heap.size) := Lib.hid HB5.out.size; obtain ⟨ad5, hA5, hcell5⟩ := (own_reads' HP5.out).at_ (n : Int) (by omega) (by omega); have hA6 : ad = ad5 := Option.some.inj hA5; subst hA6; simp only [Int.toNat_natCast] at hcell5; rw [HRD.out] at hcell5; clear hO5 hB5 hg5 hat5 hst)
            | (go_at_call 32; ((with_reducible refine (HCP.out _).mono ?_); rintro e w6 ⟨v6, rfl, hO6, hB6⟩; obtain ⟨A6, c6, rfl, _, _⟩ := hO6.reads; have HO6 := Lib.hid (HO5.out.below hB6); have HF6 := Lib.hid (blk_below HF5.out hB6); have HP6 := Lib.hid (HP5.out.below hB6); have HB6 := Lib.hid (below_then HB5.out HW5.out hB6); clear hO6 hB6)))
          go_roundw
          case rel => exact ⟨acc ++ bs, at_ + pb.length, n + 1, hlt, by go_num, by go_num, by omega, Lib.hid (by rw [← List.append_assoc]; exact HO6.out), HF6, HB6, HP6, HD2, Lib.hid (by have := HA.out; have := HBS.out; simp; omega)⟩
          case measure => simp [intOf]; omega
      · have hnl : n = ps.length := by omega
        have HV2 : Hid (V = (bomV f ++ acc, 0, 0)) := Lib.hid (by
          rw [HD.out]
          have h2 := HDD.out
          rw [hnl, List.drop_length, encF_nil] at h2
          simp [resE, h2, joinD])
        have c0 : wr.cell? ⟨w.heap.size, 0, none⟩ = some (.int .i64 0) := (blk_cell HF.out 0).trans rfl
        have c1 : wr.cell? ⟨w.heap.size, 1, none⟩ = some (.int .i64 0) := (blk_cell HF.out 1).trans rfl
        have z0 := blk_frozen HF.out 0
        have z1 := blk_frozen HF.out 1
        clear hnl
        go_wp2
        have HF1 := blk_set (blk_set HF.out 0 (.int .i64 0)) 1 (.int .i64 0)
        refine bodyPost_ret (results_tc rfl _ _ _ _ _ _ _ rfl HF1 Try.underlying26 rfl (by kernel_rfl)) rfl ?_
        rw [HV2.out]
        exact ⟨_, rfl, (HO.out.set_ HF.out (by decide) 0 _).set_ (blk_set HF.out 0 _) (by decide) 1 _, below_set (below_set HB.out (Nat.le_refl _)) (Nat.le_refl _)⟩
  · have HBM : Hid (bomV f = []) := Lib.hid (by rw [bomV, if_neg h6])
    have b6 : ((nameF f).toList == [117, 116, 102, 45, 49, 54]) = false := by rw [n6]; exact beq_eq_false_iff_ne.mpr h6
    have HNM : Hid (nameF f = nameF f) := Lib.hid rfl
    clear h6 n6
    go_enter Try.func17, Try.ntmps17
    go_wp2_with (first
      | (go_at_call 13; ((with_reducible refine (HC.out _).mono ?_); rintro e w1 ⟨rfl, hB⟩; have HF1 := Lib.hid (blk_below (heap_alloc_new w (.cells #[.int .i64 0, .int .i64 0] 26)) hB); have HB1 := Lib.hid (below_then (below_first _) (below_first _).size hB); clear hB))
      | (go_at_call 30; ((with_reducible refine (HP.out _ (HR.out.below HB1.out)).mono ?_); rintro e w2 ⟨v, rfl, hO, hB⟩; obtain ⟨A2, c2, rfl, hc2, hRx⟩ := hO.reads; clear hRx hc2; have HF5 := Lib.hid (blk_below (blk_below HF1.out hB) (below_first (.cells #[.int .i64 0, .int .i64 0] 26))); have HP5 := Lib.hid ((ORow.lower (base' := w.heap.size) hO HB1.out.size).alloc (.cells #[.int .i64 0, .int .i64 0] 26)); have HB5 := Lib.hid (below_alloc (below_then HB1.out HB1.out.size hB) (.cells #[.int .i64 0, .int .i64 0] 26)); clear hO hB)))
    have HO9 : Hid (ORow .u8 5 (w2.alloc (.cells #[.int .i64 0, .int .i64 0] 26)) w.heap.size (.slice none 0 0) (bomV f)) := Lib.hid (by rw [HBM.out]; exact ORow.nil _ _ _ _)
    have HF9 := HF5
    have HB9 := HB5
    have HP9 := HP5
    go_loopw [8, 9, 10] (fun s9 s10 s42 wr => ∃ (acc : List Int) (at_ n : Nat), n ≤ ps.length ∧ s42 = .int .i64 n ∧ s10 = .int .i64 at_ ∧ at_ ≤ 4 * n ∧ Hid (ORow .u8 5 wr w.heap.size s9 (bomV f ++ acc)) ∧ Hid (wr.heap[w.heap.size]? = some (.cells #[.int .i64 0, .int .i64 0] 26 (0, 0))) ∧ Hid (Below w.heap.size w wr) ∧ Hid (ORow .i32 21 wr w.heap.size (.slice A2 ps.length c2) ps) ∧ Hid (encF f ps = joinD acc at_ (encF f (ps.drop n))) ∧ Hid (acc.length ≤ 4 * n)) (fun _ _ s42 _ => ps.length - (intOf s42).toNat)
    case atStart => exact ⟨[], 0, 0, Nat.zero_le _, rfl, rfl, Nat.le_refl _, Lib.hid (by rw [List.append_nil]; exact HO9.out), HF9, HB9, HP9, Lib.hid (by simp [joinD]), Lib.hid (Nat.zero_le _)⟩
    case round =>
      obtain ⟨acc, at_, n, hn, rfl, rfl, hat, HO, HF, HB, HPS, HDD, HA⟩ := hrel
      have HW : Hid (w.heap.size ≤ wr.heap.size) := Lib.hid HB.out.size
      have HBL : Hid ((bomV f).length ≤ 2) := Lib.hid (by unfold bomV; split <;> simp)
      by_cases hlt : n < ps.length
      · obtain ⟨ad, hA2, hcell⟩ := (own_reads' HPS.out).at_ (n : Int) (by omega) (by omega)
        subst hA2
        simp only [Int.toNat_natCast] at hcell
        have HEX : Hid (ps.drop n = rd ps (n : Int) :: ps.drop (n + 1)) := Lib.hid (by rw [rd_lt ps n hlt]; exact List.drop_eq_getElem_cons hlt)
        have HPT : Hid (isPt (rd ps (n : Int)) = true) := Lib.hid (by rw [rd_lt ps n hlt]; exact HALL.out _ (List.getElem_mem hlt))
        obtain ⟨p, hp⟩ : ∃ p, rd ps (n : Int) = p := ⟨_, rfl⟩
        have HRD := Lib.hid hp
        rw [hp] at hcell HEX HPT
        clear hp
        have hlen : (bomV f ++ acc).length ≤ 17592186044416 := by have := HA.out; have := HBL.out; rw [List.length_append]; omega
        have HCP := Lib.hid (fun W => rput_ok p W HPT.out)
        have HPB := Lib.hid (putB_len p)
        have HCQ := Lib.hid (rq_any f p wr HF0.out HPT.out)
        unfold RowPost at HCQ
        rcases hwv : writeV f p with _ | bs
        · rw [hwv] at HCQ
          have HV2 : Hid (V = ([], (at_ : Int), 10)) := Lib.hid (by
            rw [HD.out]
            have h2 := HDD.out
            rw [HEX.out, encF_none hwv] at h2
            simp [resE, h2, joinD])
          have HNM2 := HNM
          generalize hnm : nameF f = nm at *
          clear hnm hwv hlen
          go_wp2_with (first
            | (go_at_call 31; ((with_reducible refine HCQ.out.mono ?_); rintro e w4 ⟨v4, rfl, hO4, hB4⟩; obtain ⟨A4, c4, rfl, _, _⟩ := hO4.reads; have HF4 := Lib.hid (blk_below HF.out hB4); have HB4 := Lib.hid (below_then HB.out HW.out hB4); have c0 : w4.cell? ⟨w.heap.size, 0, none⟩ = some (.int .i64 0) := (blk_cell HF4.out 0).trans rfl; have c1 : w4.cell? ⟨w.heap.size, 1, none⟩ = some (.int .i64 0) := (blk_cell HF4.out 1).trans rfl; have z0 := blk_frozen HF4.out 0; have z1 := blk_frozen HF4.out 1; clear hO4 hB4)))
          have HF8 := blk_set (blk_set HF4.out 0 (.int .i64 (at_ : Int))) 1 (.int .i64 10)
          refine bodyPost_ret (results_tc rfl _ _ _ _ _ _ _ rfl HF8 Try.underlying26 rfl (by kernel_rfl)) rfl ?_
          rw [HV2.out]
          exact ⟨_, rfl, ORow.nil _ _ _ _, below_set (below_set HB4.out (Nat.le_refl _)) (Nat.le_refl _)⟩
        · rw [hwv, Option.getD_some] at HCQ
          have HD2 : Hid (encF f ps = joinD (acc ++ bs) (at_ + (putB p).length) (encF f (ps.drop (n + 1)))) := Lib.hid (by rw [HDD.out, HEX.out, encF_some hwv, joinD_joinD])
          have HBS := Lib.hid (writeV_len hwv)
          have hbs := writeV_pos HPT.out hwv
          have hbs2 : ((bs.length : Int) == 0) = false := beq_eq_false_iff_ne.mpr (by omega)
          have HLEN := Lib.hid hlen
          generalize hnm : nameF f = nm at *
          clear hnm hwv hlen HDD HEX hbs
          generalize putB p = pb at *
          have hpb : pb.length ≤ 4 := HPB.out
          go_wp2_with (first
            | (go_at_call 31; ((with_reducible refine HCQ.out.mono ?_); rintro e w4 ⟨v4, rfl, hO4, hB4⟩; obtain ⟨A4, c4, rfl, _, hR4⟩ := hO4.reads; have HR4 := Lib.hid hR4; have HO4 := Lib.hid (HO.out.below hB4); have HF4 := Lib.hid (blk_below HF.out hB4); have HP4 := Lib.hid (HPS.out.below hB4); have HB4 := Lib.hid (below_then HB.out HW.out hB4); have HW4 : Hid (w.heap.size ≤ w4.heap.size) := Lib.hid HB4.out.size; clear hO4 hB4 hR4))
            | (at_builtin; refine print_append_row (w0 := w) w.heap.size rfl (.tmp 54) (.tmp 55) 22 5 .u8 1 rfl Try.underlying22 infoU8 (by decide) _ (bomV f ++ acc) bs _ _ _ rfl rfl HO4.out HR4.out HB4.out HW4.out (by have := HLEN.out; have := HBS.out; omega) ?_; intro v1 w5 hO5 hB5 hg5 hat5; have hst := app_step HO4.out hg5 HF4.out (by decide) HP4.out; have HO5 : Hid (ORow .u8 5 w5 w.heap.size v1 (bomV f ++ acc ++ bs)) := Lib.hid hO5; have HF5 := Lib.hid hst.1; have HP5 := Lib.hid hst.2; have HB5 := Lib.hid hB5; have HW5 : Hid (w.heap.size ≤ w5.heap.size) := Lib.hid HB5.out.size; obtain ⟨ad5, hA5, hcell5⟩ := (own_reads' HP5.out).at_ (n : Int) (by omega) (by omega); have hA6 : ad = ad5 := Option.some.inj hA5; subst hA6; simp only [Int.toNat_natCast] at hcell5; rw [HRD.out] at hcell5; clear hO5 hB5 hg5 hat5 hst)
            | (go_at_call 32; ((with_reducible refine (HCP.out _).mono ?_); rintro e w6 ⟨v6, rfl, hO6, hB6⟩; obtain ⟨A6, c6, rfl, _, _⟩ := hO6.reads; have HO6 := Lib.hid (HO5.out.below hB6); have HF6 := Lib.hid (blk_below HF5.out hB6); have HP6 := Lib.hid (HP5.out.below hB6); have HB6 := Lib.hid (below_then HB5.out HW5.out hB6); clear hO6 hB6)))
          go_roundw
          case rel => exact ⟨acc ++ bs, at_ + pb.length, n + 1, hlt, by go_num, by go_num, by omega, Lib.hid (by rw [← List.append_assoc]; exact HO6.out), HF6, HB6, HP6, HD2, Lib.hid (by have := HA.out; have := HBS.out; simp; omega)⟩
          case measure => simp [intOf]; omega
      · have hnl : n = ps.length := by omega
        have HV2 : Hid (V = (bomV f ++ acc, 0, 0)) := Lib.hid (by
          rw [HD.out]
          have h2 := HDD.out
          rw [hnl, List.drop_length, encF_nil] at h2
          simp [resE, h2, joinD])
        have c0 : wr.cell? ⟨w.heap.size, 0, none⟩ = some (.int .i64 0) := (blk_cell HF.out 0).trans rfl
        have c1 : wr.cell? ⟨w.heap.size, 1, none⟩ = some (.int .i64 0) := (blk_cell HF.out 1).trans rfl
        have z0 := blk_frozen HF.out 0
        have z1 := blk_frozen HF.out 1
        clear hnl
        go_wp2
        have HF1 := blk_set (blk_set HF.out 0 (.int .i64 0)) 1 (.int .i64 0)
        refine bodyPost_ret (results_tc rfl _ _ _ _ _ _ _ rfl HF1 Try.underlying26 rfl (by kernel_rfl)) rfl ?_
        rw [HV2.out]
        exact ⟨_, rfl, (HO.out.set_ HF.out (by decide) 0 _).set_ (blk_set HF.out 0 _) (by decide) 1 _, below_set (below_set HB.out (Nat.le_refl _)) (Nat.le_refl _)⟩
theorem rencode_any (s : ByteArray) (A : Option Addr) (l : List Int) (c : Nat) (w : World) (hr : ReadsInt w .u8 A l.length l) (hby : Bytes l) (hc : l.length ≤ c) (hs : s.size ≤ 4194304) (hl : l.length ≤ 1048576) :
    Calls Try.prog 17 #[.string s, .slice A l.length c] w (TxtPost w (encodeV s l)) := by
  by_cases hf : formV s = 0
  · exact rencode_no s A l c w hs hf
  · by_cases hcd : (ptsV l).2.2 = 0
    · exact rencode_main s A l c w hr hby hc hs hl hf hcd
    · exact rencode_bad s A l c w hr hby hc hs hl hf hcd
end Go.Proofs.Ytpbgpbblbohmgaa
