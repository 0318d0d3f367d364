/- charset: a set's form; a byte's point. charset.upper: a byte of windows-1252. charset: single, double. charset: double. charset: marked. charset: points, Decode. charset: Decode. -/
import Derived.Test.YtpbgpbblbohmgaaXA
import Derived.Test.YtpbgpbblbohmgaaPCharsetDecodesx1
import Derived.Test.YtpbgpbblbohmgaaXB
import Derived.RegionTactic
import Derived.BigRegion
namespace Go.Proofs.Ytpbgpbblbohmgaa
open Go.RowKit Go.Proofs.YtpbgpbblbohmgaaW.PrintWords

def formL (l : List UInt8) : Int :=
  if l = [117, 115, 45, 97, 115, 99, 105, 105] ∨ l = [97, 115, 99, 105, 105] then 1 else if l = [117, 116, 102, 45, 56] then 2 else
  if l = [105, 115, 111, 45, 56, 56, 53, 57, 45, 49] ∨ l = [108, 97, 116, 105, 110, 49] then 3 else if l = [105, 115, 111, 45, 56, 56, 53, 57, 45, 49, 53] then 4 else
  if l = [119, 105, 110, 100, 111, 119, 115, 45, 49, 50, 53, 50] then 5 else if l = [117, 116, 102, 45, 49, 54] then 6 else if l = [117, 116, 102, 45, 49, 54, 98, 101] then 7 else if l = [117, 116, 102, 45, 49, 54, 108, 101] then 8 else 0
def formV (s : ByteArray) : Int := formL (lowS s).toList
theorem formL_range (l : List UInt8) : 0 ≤ formL l ∧ formL l ≤ 8 := by
  unfold formL
  repeat' split
  all_goals decide
set_option maxRecDepth 100000 in
set_option maxHeartbeats 2000000 in
theorem form_any (s : ByteArray) (w : World) (hs : s.size ≤ 9223372036854775807) :
    Calls Try.prog 24 #[.string s] w fun e w' => e = .returned (.int .i64 (formV s)) ∧ Below w.heap.size w w' := by
  have HC := Lib.hid (charset_lower_any s w hs)
  have HF : Hid (formV s = formL (lowS s).toList) := Lib.hid rfl
  generalize formV s = R at *
  generalize lowS s = S at *
  go_enter Try.func24, Try.ntmps24
  go_wp2_with (go_at_call 38; ((with_reducible refine HC.out.mono ?_); rintro e w1 ⟨rfl, hB⟩; have HB := Lib.hid hB; clear hB))
  all_goals
    go_ret
    refine ⟨?_, HB.out⟩
    have hf := HF.out
    clear HF HC HB
    first
      | (exfalso; simp_all; done)
      | (subst hf; unfold formL; simp_all; done)

theorem drawn_below {w w' : World} (h : Drawn0 w w') : Below w.heap.size w w' := h.below
def knownV (s : ByteArray) : Bool := formV s != 0
set_option maxHeartbeats 400000 in
theorem known_any (s : ByteArray) (w : World) (hs : s.size ≤ 9223372036854775807) :
    Calls Try.prog 12 #[.string s] w fun e w' => e = .returned (.bool (knownV s)) ∧ Below w.heap.size w w' := by
  have HC := Lib.hid (form_any s w hs)
  have HF : Hid (knownV s = (formV s != 0)) := Lib.hid rfl
  generalize knownV s = R at *
  generalize formV s = f at *
  go_enter Try.func12, Try.ntmps12
  go_wp2_with (go_at_call 24; ((with_reducible refine HC.out.mono ?_); rintro e w1 ⟨rfl, hB⟩; have HB := Lib.hid hB; clear hB))
  go_ret
  exact ⟨by rw [HF.out]; rfl, HB.out⟩
def fitsE (s : ByteArray) : Int := if formV s = 0 then 143 else 0
def FitsPost (s : ByteArray) (w : World) (e : Ending) (w' : World) : Prop := e = .returned (.tuple #[.int .i64 (formV s), .agg #[.int .i64 0, .int .i64 (fitsE s)]]) ∧ Below w.heap.size w w'
set_option maxRecDepth 100000 in
set_option maxHeartbeats 400000 in
theorem fits_any (s : ByteArray) (A : Option Addr) (n c : Nat) (w : World) (hs : s.size ≤ 9223372036854775807) (hn : n ≤ 1048576) :
    Calls Try.prog 19 #[.string s, .slice A n c] w (FitsPost s w) := by
  have HC := Lib.hid (fun w => form_any s w hs)
  by_cases hf : formV s = 0
  · have HF : Hid (fitsE s = 143) := Lib.hid (by rw [fitsE, if_pos hf])
    have HV := Lib.hid hf
    rw [hf] at HC
    clear hf
    go_enter Try.func19, Try.ntmps19
    go_wp2_with (go_at_call 24; ((with_reducible refine (HC.out _).mono ?_); rintro e w1 ⟨rfl, hB⟩; have HF1 := Lib.hid (blk_below (heap_alloc_new w (.cells #[.int .i64 0, .int .i64 0] 26)) hB); have c0 : w1.cell? ⟨w.heap.size, 0, none⟩ = some (.int .i64 0) := (blk_cell HF1.out 0).trans rfl; have c1 : w1.cell? ⟨w.heap.size, 1, none⟩ = some (.int .i64 0) := (blk_cell HF1.out 1).trans rfl; have z0 := blk_frozen HF1.out 0; have z1 := blk_frozen HF1.out 1; have HB := Lib.hid (below_then (below_first _) (below_first _).size hB); clear hB))
    have HF2 := blk_set (blk_set HF1.out 0 (.int .i64 0)) 1 (.int .i64 143)
    refine bodyPost_ret (results_tc rfl _ _ _ _ _ _ _ rfl HF2 Try.underlying26 rfl (by kernel_rfl)) rfl ?_
    unfold FitsPost
    rw [HV.out, HF.out]
    exact ⟨rfl, below_set (below_set HB.out (Nat.le_refl _)) (Nat.le_refl _)⟩
  · have HF : Hid (fitsE s = 0) := Lib.hid (by rw [fitsE, if_neg hf])
    obtain ⟨f, hfe⟩ : ∃ f, formV s = f := ⟨_, rfl⟩
    have HV := Lib.hid hfe
    rw [hfe] at hf HC
    clear hfe
    have b0 : (f == 0) = false := beq_eq_false_iff_ne.mpr hf
    have n0 : (n : Int) ≤ 1048576 := by omega
    clear hf
    go_enter Try.func19, Try.ntmps19
    go_wp2_with (go_at_call 24; ((with_reducible refine (HC.out _).mono ?_); rintro e w1 ⟨rfl, hB⟩; have HF1 := Lib.hid (blk_below (heap_alloc_new w (.cells #[.int .i64 0, .int .i64 0] 26)) hB); have c0 : w1.cell? ⟨w.heap.size, 0, none⟩ = some (.int .i64 0) := (blk_cell HF1.out 0).trans rfl; have c1 : w1.cell? ⟨w.heap.size, 1, none⟩ = some (.int .i64 0) := (blk_cell HF1.out 1).trans rfl; have z0 := blk_frozen HF1.out 0; have z1 := blk_frozen HF1.out 1; have HB := Lib.hid (below_then (below_first _) (below_first _).size hB); clear hB))
    have HF2 := blk_set (blk_set HF1.out 0 (.int .i64 0)) 1 (.int .i64 0)
    refine bodyPost_ret (results_tc rfl _ _ _ _ _ _ _ rfl HF2 Try.underlying26 rfl (by kernel_rfl)) rfl ?_
    unfold FitsPost
    rw [HF.out, HV.out]
    exact ⟨rfl, below_set (below_set HB.out (Nat.le_refl _)) (Nat.le_refl _)⟩
def unitV (l : List Int) (little : Bool) : Int := if little = true then rd l 1 * 256 + rd l 0 else rd l 0 * 256 + rd l 1
theorem or_unit (x y : Int) (h0 : 0 ≤ x) (h1 : x ≤ 255) (h2 : 0 ≤ y) (h3 : y ≤ 255) : Go.bits .or .i32 (wrap32 ((wrap32 x) * 256)) (wrap32 y) = x * 256 + y := by
  have e1 : wrap32 x = x := by unfold wrap32; omega
  have e2 : wrap32 y = y := by unfold wrap32; omega
  have e3 : wrap32 (x * 256) = x * 256 := by unfold wrap32; omega
  rw [e1, e2, e3]
  exact bits_join .i32 31 (by decide) wraps_i32 8 (x * 256) y (by omega) (by omega) (by omega) h2 (by omega) (by omega)
theorem unitV_range {l : List Int} (h : Bytes l) (b : Bool) : 0 ≤ unitV l b ∧ unitV l b ≤ 65535 := by
  have h1 := h.rd 0
  have h2 := h.rd 1
  simp only [Int.natCast_zero, Int.natCast_one] at h1 h2
  unfold unitV; split <;> omega
theorem unit_any (A : Option Addr) (c : Nat) (l : List Int) (b : Bool) (w : World) (hr : ReadsInt w .u8 A l.length l) (hby : Bytes l) (hc : l.length ≤ c) (h2 : 2 ≤ l.length) :
    Calls Try.prog 45 #[.slice A l.length c, .bool b] w fun e w' => e = .returned (.int .i32 (unitV l b)) ∧ ∃ n, w' = w.drewN n := by
  have h3 := hby.rd 0
  have h4 := hby.rd 1
  simp only [Int.natCast_zero, Int.natCast_one] at h3 h4
  refine (PCharsetDecodes.charset_unit.calls A c l b (unitV l b) w (Kd.C_of_reads (d := (0 : Int)) hr) hc ?_).mono fun e w' h => ⟨h.1, h.2.out⟩
  unfold PCharsetDecodes.charset_unit.f unitV
  cases b
  · simp only [Bool.false_eq_true, if_false]
    rw [if_pos (by omega), if_pos (by omega), or_unit _ _ h3.1 h3.2 h4.1 h4.2]
  · simp only [if_true]
    rw [if_pos (by omega), if_pos (by omega), or_unit _ _ h4.1 h4.2 h3.1 h3.2]
def euroV (c : Int) : Int := if c = 164 then 8364 else if c = 166 then 352 else if c = 168 then 353 else if c = 180 then 381 else if c = 184 then 382 else if c = 188 then 338 else if c = 189 then 339 else if c = 190 then 376 else c
theorem euro_any (c : Int) (w : World) (h0 : 0 ≤ c) (h1 : c ≤ 255) : Calls Try.prog 51 #[.int .u8 c] w fun e w' => e = .returned (.int .i32 (euroV c)) ∧ Below w.heap.size w w' := by
  refine (PCharsetDecodes.charset_euro.calls c (euroV c) w ?_).mono fun e w' h => ⟨h.1, h.2.below⟩
  have e1 : wrap32 c = c := by unfold wrap32; omega
  unfold PCharsetDecodes.charset_euro.f euroV
  rw [e1]
  repeat' split
  all_goals rfl
end Go.Proofs.Ytpbgpbblbohmgaa
namespace Go.Proofs.Ytpbgpbblbohmgaa
open Go.RowKit Go.Proofs.YtpbgpbblbohmgaaW.PrintWords
def upTab : List Int := [8364, -1, 8218, 402, 8222, 8230, 8224, 8225, 710, 8240, 352, 8249, 338, -1, 381, -1, -1, 8216, 8217, 8220, 8221, 8226, 8211, 8212, 732, 8482, 353, 8250, 339, -1, 382, 376]
def upC : Array Value := (nums .i32 upTab).toArray
def upV (c : Int) : Int := if c < 128 ∨ 159 < c then c else rd upTab (c - 128)
theorem upC_all : upC.all (·.oneCell') = true := by decide +kernel
theorem upC_size : (Try.prog.info? 69).map (·.size) = some upC.size := by kernel_rfl
theorem upC_at (k : Nat) (hk : k < 32) : upC[k]? = some (.int .i32 (rd upTab (k : Int))) := by
  unfold upC
  rw [List.getElem?_toArray]
  have hl : k < upTab.length := hk
  simp [nums, rd, List.getElem?_eq_getElem hl]
set_option maxRecDepth 100000 in
set_option maxHeartbeats 4000000 in
theorem upper_mid (k : Nat) (w : World) (hk : k < 32) : Calls Try.prog 52 #[.int .u8 (128 + k)] w fun e w' => e = .returned (.int .i32 (rd upTab (k : Int))) ∧ Below w.heap.size w w' := by
  have hat := upC_at k hk
  obtain ⟨v, hv⟩ : ∃ v, rd upTab (k : Int) = v := ⟨_, rfl⟩
  rw [hv] at hat ⊢
  clear hv
  have hk0 : (0 : Int) ≤ (k : Int) := Int.natCast_nonneg _
  have hk1 : (k : Int) < 32 := by omega
  have d1 : decide (128 + (k : Int) < 128) = false := decide_eq_false (by omega)
  have d2 : decide (159 < 128 + (k : Int)) = false := decide_eq_false (by omega)
  have e1 : 128 + (k : Int) - 128 = (k : Int) := by omega
  have HSZ := Lib.hid upC_size
  have HALL := Lib.hid upC_all
  have HS0 : Hid ((Array.replicate 32 (Value.int .i32 0)).size = upC.size) := Lib.hid (by decide +kernel)
  have HU : Hid (Value.agg upC = Value.agg upC) := Lib.hid rfl
  go_enter Try.func52, Try.ntmps52
  go_wp2_with (first
    | ((with_reducible refine at_store_new (x := .tmp 3) (y := .tmp 12) w _ upC HSZ.out (by decide +kernel) HALL.out ?_ ?_ ?_); rfl; rfl))
  go_ret
  exact ⟨rfl, (below_first _)⟩
set_option maxHeartbeats 400000 in
theorem upper_out (c : Int) (w : World) (h0 : 0 ≤ c) (h1 : c ≤ 255) (h : c < 128 ∨ (128 ≤ c ∧ 159 < c)) : Calls Try.prog 52 #[.int .u8 c] w fun e w' => e = .returned (.int .i32 c) ∧ Below w.heap.size w w' := by
  rcases h with h | ⟨h, h2⟩
  · have d1 : decide (c < 128) = true := decide_eq_true h
    go_enter Try.func52, Try.ntmps52
    go_wp2
    go_ret
    exact ⟨rfl, Below.refl _ _⟩
  · have d1 : decide (c < 128) = false := decide_eq_false (by omega)
    have d2 : decide (159 < c) = true := decide_eq_true h2
    go_enter Try.func52, Try.ntmps52
    go_wp2
    go_ret
    exact ⟨rfl, Below.refl _ _⟩
theorem upper_any (c : Int) (w : World) (h0 : 0 ≤ c) (h1 : c ≤ 255) : Calls Try.prog 52 #[.int .u8 c] w fun e w' => e = .returned (.int .i32 (upV c)) ∧ Below w.heap.size w w' := by
  by_cases h : c < 128 ∨ 159 < c
  · have e : upV c = c := by rw [upV, if_pos h]
    rw [e]
    exact upper_out c w h0 h1 (by omega)
  · obtain ⟨k, rfl⟩ : ∃ k : Nat, c = 128 + (k : Int) := ⟨(c - 128).toNat, by omega⟩
    have e : upV (128 + (k : Int)) = rd upTab (k : Int) := by rw [upV, if_neg h]; congr 1; omega
    rw [e]
    exact upper_mid k w (by omega)
/-- A byte's point in a set of one byte; -1: it is none. -/
def pointV (f c : Int) : Int := if f = 4 then euroV c else if f = 5 then upV c else if f = 1 ∧ 127 < c then -1 else c
set_option maxHeartbeats 1000000 in
theorem point_any (f c : Int) (w : World) (h0 : 0 ≤ c) (h1 : c ≤ 255) : Calls Try.prog 46 #[.int .i64 f, .int .u8 c] w fun e w' => e = .returned (.int .i32 (pointV f c)) ∧ Below w.heap.size w w' := by
  have HE := Lib.hid (euro_any c w h0 h1)
  have HU := Lib.hid (upper_any c w h0 h1)
  by_cases f4 : f = 4
  · subst f4
    rw [show pointV 4 c = euroV c from rfl]
    go_enter Try.func46, Try.ntmps46
    go_wp2_with (go_at_call 51; ((with_reducible refine HE.out.mono ?_); rintro e w1 ⟨rfl, hB⟩; have HB := Lib.hid hB; clear hB))
    go_ret
    exact ⟨rfl, HB.out⟩
  · by_cases f5 : f = 5
    · subst f5
      rw [show pointV 5 c = upV c from rfl]
      go_enter Try.func46, Try.ntmps46
      go_wp2_with (go_at_call 52; ((with_reducible refine HU.out.mono ?_); rintro e w1 ⟨rfl, hB⟩; have HB := Lib.hid hB; clear hB))
      go_ret
      exact ⟨rfl, HB.out⟩
    · have b4 : (f == 4) = false := beq_eq_false_iff_ne.mpr f4
      have b5 : (f == 5) = false := beq_eq_false_iff_ne.mpr f5
      by_cases f1 : f = 1
      · have b1 : (f == 1) = true := beq_iff_eq.mpr f1
        by_cases hc : 127 < c
        · rw [show pointV f c = -1 by rw [pointV, if_neg f4, if_neg f5, if_pos ⟨f1, hc⟩]]
          have d1 : decide (127 < c) = true := decide_eq_true hc
          clear f1 f4 f5
          go_enter Try.func46, Try.ntmps46
          go_wp2
          go_ret
          exact ⟨rfl, Below.refl _ _⟩
        · rw [show pointV f c = c by rw [pointV, if_neg f4, if_neg f5, if_neg (fun h => hc h.2)]]
          have d1 : decide (127 < c) = false := decide_eq_false hc
          clear f1 f4 f5 hc
          go_enter Try.func46, Try.ntmps46
          go_wp2
          go_ret
          exact ⟨rfl, Below.refl _ _⟩
      · rw [show pointV f c = c by rw [pointV, if_neg f4, if_neg f5, if_neg (fun h => f1 h.1)]]
        have b1 : (f == 1) = false := beq_eq_false_iff_ne.mpr f1
        clear f1 f4 f5
        go_enter Try.func46, Try.ntmps46
        go_wp2
        go_ret
        exact ⟨rfl, Below.refl _ _⟩
end Go.Proofs.Ytpbgpbblbohmgaa
namespace Go.Proofs.Ytpbgpbblbohmgaa
open Go.RowKit Go.Proofs.YtpbgpbblbohmgaaW.PrintWords

/-- A reading's answer: the points, or the place of what is wrong. -/
def resV (d : List Int × Option Nat) : List Int × Int × Int := match d.2 with | none => (d.1, 0, 0) | some n => ([], n, 20)
/-- A text of a set of one byte. -/
def sgl (f : Int) : List Int → List Int × Option Nat
  | [] => ([], none)
  | c :: t => if pointV f c < 0 then ([], some 0) else (pointV f c :: (sgl f t).1, (sgl f t).2.map (· + 1))
def dbl (b : Bool) : Nat → List Int → List Int × Option Nat
  | 0, _ => ([], none)
  | f + 1, l => if l.length = 0 then ([], none) else if l.length < 2 then ([], some 0) else
      if unitV l b < 55296 ∨ 57343 < unitV l b then joinD [unitV l b] 2 (dbl b f (l.drop 2)) else
      if 56320 ≤ unitV l b ∨ l.length < 4 then ([], some 0) else
      if unitV (l.drop 2) b < 56320 ∨ 57343 < unitV (l.drop 2) b then ([], some 0) else
      joinD [65536 + (unitV l b - 55296) * 1024 + (unitV (l.drop 2) b - 56320)] 4 (dbl b f (l.drop 4))

set_option maxRecDepth 100000 in
set_option maxHeartbeats 1000000 in
theorem single_any (f : Int) (A : Option Addr) (l : List Int) (c : Nat) (w : World) (hr : ReadsInt w .u8 A l.length l) (hby : Bytes l) (hl : l.length ≤ 35184372088832) :
    Calls Try.prog 35 #[.int .i64 f, .slice A l.length c] w (PtsPost w (resV (sgl f l))) := by
  have HR := Lib.hid hr
  have HBY := Lib.hid hby
  clear hr hby
  go_enter Try.func35, Try.ntmps35
  go_wp2
  go_loopw [6, 12] (fun s6 s12 wr => ∃ (acc : List Int) (n : Nat), n ≤ l.length ∧ s12 = .int .i64 n ∧ Hid (ORow .i32 21 wr w.heap.size s6 acc) ∧ Hid (wr.heap[w.heap.size]? = some (.cells #[.int .i64 0, .int .i64 0] 26 (0, 0))) ∧ Hid (Below w.heap.size w wr) ∧ Hid (sgl f l = joinD acc n (sgl f (l.drop n))) ∧ Hid (acc.length ≤ n)) (fun _ s12 _ => l.length - (intOf s12).toNat)
  case atStart =>
    refine ⟨[], 0, Nat.zero_le _, rfl, Lib.hid (ORow.nil _ _ _ _), Lib.hid ?_, Lib.hid (below_first _), Lib.hid ?_, Lib.hid (Nat.zero_le _)⟩
    · exact heap_alloc_new w _
    · simp [joinD]
  case round =>
    obtain ⟨acc, n, hn, rfl, HO, HF, HB, HD, HA⟩ := hrel
    have HW : wr.heap.size ≥ w.heap.size := HB.out.size
    by_cases hlt : n < l.length
    · obtain ⟨ad, rfl, hcell⟩ := (HR.out.below HB.out).at_ (n : Int) (by omega) (by omega)
      simp only [Int.toNat_natCast] at hcell
      have HE : Hid (l.drop n = rd l (n : Int) :: l.drop (n + 1)) := Lib.hid (by rw [rd_lt l n hlt]; exact List.drop_eq_getElem_cons hlt)
      have hcb := HBY.out.rd n
      generalize rd l (n : Int) = ch at *
      have HC := Lib.hid (fun W => point_any f ch W hcb.1 hcb.2)
      by_cases hp : pointV f ch < 0
      · have hV : resV (sgl f l) = ([], (n : Int), 20) := by
          have h2 := HD.out
          rw [HE.out, sgl, if_pos hp] at h2
          simp [resV, h2, joinD]
        have HV := Lib.hid hV
        clear hV HD HE
        generalize pointV f ch = p at *
        have d1 : decide (p < 0) = true := decide_eq_true hp
        clear hp
        go_wp2_with (first | (go_at_call 46; ((with_reducible refine (HC.out _).mono ?_); rintro e w1 ⟨rfl, hB1⟩; have HF1 := Lib.hid (blk_below HF.out hB1); have c0 : w1.cell? ⟨w.heap.size, 0, none⟩ = some (.int .i64 0) := (blk_cell HF1.out 0).trans rfl; have c1 : w1.cell? ⟨w.heap.size, 1, none⟩ = some (.int .i64 0) := (blk_cell HF1.out 1).trans rfl; have z0 := blk_frozen HF1.out 0; have z1 := blk_frozen HF1.out 1; have HB1 := Lib.hid (below_then HB.out HW hB1); clear hB1)))
        have HF2 := blk_set (blk_set HF1.out 0 (.int .i64 (n : Int))) 1 (.int .i64 20)
        refine bodyPost_ret (results_tc rfl _ _ _ _ _ _ _ rfl HF2 Try.underlying26 rfl (by kernel_rfl)) rfl ?_
        rw [HV.out]
        exact ⟨_, rfl, ORow.nil _ _ _ _, below_set (below_set HB1.out (Nat.le_refl _)) (Nat.le_refl _)⟩
      · have HD2 : Hid (sgl f l = joinD (acc ++ [pointV f ch]) (n + 1) (sgl f (l.drop (n + 1)))) := Lib.hid (by
          rw [HD.out, HE.out, sgl, if_neg hp]
          simp only [joinD, List.append_assoc, Option.map_map]
          congr 2; funext x; simp; omega)
        clear HD HE
        generalize pointV f ch = p at *
        have d1 : decide (p < 0) = false := decide_eq_false hp
        clear hp
        go_wp2_with (first
          | (go_at_call 46; ((with_reducible refine (HC.out _).mono ?_); rintro e w1 ⟨rfl, hB1⟩; have HF1 := Lib.hid (blk_below HF.out hB1); have HO1 := Lib.hid (HO.out.below hB1); have HB1 := Lib.hid (below_then HB.out HW hB1); have HW1 : w1.heap.size ≥ w.heap.size := HB1.out.size; clear hB1))
          | (at_builtin; refine print_append_num (w0 := w) w.heap.size rfl (.tmp 24) (.tmp 26) 32 21 .i32 4 rfl Try.underlying32 infoI32 (by decide) _ acc p rfl rfl HO1.out HB1.out HW1 (by have := HA.out; omega) ?_; intro v1 w2 hO2 hB2 hg2 _; have HO2 := Lib.hid hO2; have HB2 := Lib.hid hB2; have HF2 := Lib.hid ((hg2.block _ (blk_lt HF1.out) (own_ne HO1.out HF1.out (by decide))).trans HF1.out); clear hO2 hB2 hg2))
        go_roundw
        case rel => exact ⟨acc ++ [p], n + 1, hlt, by go_num, HO2, HF2, HB2, HD2, Lib.hid (by have := HA.out; simp; omega)⟩
        case measure => simp [intOf]; omega
    · have hnl : n = l.length := by omega
      have hV : resV (sgl f l) = (acc, 0, 0) := by
        have h2 := HD.out
        rw [hnl, List.drop_length] at h2
        simp [resV, h2, joinD, sgl]
      have HV := Lib.hid hV
      clear hV HD
      have c0 : wr.cell? ⟨w.heap.size, 0, none⟩ = some (.int .i64 0) := (blk_cell HF.out 0).trans rfl
      have c1 : wr.cell? ⟨w.heap.size, 1, none⟩ = some (.int .i64 0) := (blk_cell HF.out 1).trans rfl
      have z0 := blk_frozen HF.out 0
      have z1 := blk_frozen HF.out 1
      clear hnl
      go_wp2
      have HF1 := blk_set (blk_set HF.out 0 (.int .i64 0)) 1 (.int .i64 0)
      refine bodyPost_ret (results_tc rfl _ _ _ _ _ _ _ rfl HF1 Try.underlying26 rfl (by kernel_rfl)) rfl ?_
      rw [HV.out]
      exact ⟨_, rfl, (HO.out.set_ HF.out (by decide) 0 _).set_ (blk_set HF.out 0 _) (by decide) 1 _, below_set (below_set HB.out (Nat.le_refl _)) (Nat.le_refl _)⟩
end Go.Proofs.Ytpbgpbblbohmgaa
namespace Go.Proofs.Ytpbgpbblbohmgaa
open Go.RowKit Go.Proofs.YtpbgpbblbohmgaaW.PrintWords

/-- What is known where it goes wrong. -/
structure Wrong (w : World) (V : List Int × Int × Int) (a : Act) (w' : World) : Prop where
  ds : a.defers = []
  sz : a.tmps.size = 75
  s5 : a.tmps.getD 5 undef = .pointer (some ⟨w.heap.size, 0, none⟩)
  ex : ∃ n : Nat, a.tmps.getD 7 undef = .int .i64 n ∧ V = ([], (n : Int), 20)
  blk : w'.heap[w.heap.size]? = some (.cells #[.int .i64 0, .int .i64 0] 26 (0, 0))
  bel : Below w.heap.size w w'
theorem dbl_step (b : Bool) (f : Nat) (l : List Int) : dbl b (f + 1) l = if l.length = 0 then ([], none) else if l.length < 2 then ([], some 0) else
      if unitV l b < 55296 ∨ 57343 < unitV l b then joinD [unitV l b] 2 (dbl b f (l.drop 2)) else
      if 56320 ≤ unitV l b ∨ l.length < 4 then ([], some 0) else
      if unitV (l.drop 2) b < 56320 ∨ 57343 < unitV (l.drop 2) b then ([], some 0) else
      joinD [65536 + (unitV l b - 55296) * 1024 + (unitV (l.drop 2) b - 56320)] 4 (dbl b f (l.drop 4)) := rfl
theorem resV_wrong {b : Bool} {l acc : List Int} {n f : Nat} (h : dbl b l.length l = joinD acc n (dbl b (f + 1) (l.drop n))) (h1 : dbl b (f + 1) (l.drop n) = ([], some 0)) : resV (dbl b l.length l) = ([], (n : Int), 20) := by
  rw [h, h1]; simp [resV, joinD]
theorem unit_bel (A : Option Addr) (c : Nat) (l : List Int) (b : Bool) (w : World) (hr : ReadsInt w .u8 A l.length l) (hby : Bytes l) (hc : l.length ≤ c) (h2 : 2 ≤ l.length) :
    Calls Try.prog 45 #[.slice A l.length c, .bool b] w fun e w' => e = .returned (.int .i32 (unitV l b)) ∧ Below w.heap.size w w' :=
  (unit_any A c l b w hr hby hc h2).mono fun e w' ⟨h, n, hn⟩ => ⟨h, hn ▸ pw_below_drewN (Below.refl _ _) n⟩
theorem getD_set_ne (ts : Array Value) (i j : Nat) (v : Value) (h : i ≠ j) : (ts.setIfInBounds i v).getD j undef = ts.getD j undef := by
  simp [Array.getD_eq_getD_getElem?, Array.getElem?_setIfInBounds_ne h]
theorem getD_set_self (ts : Array Value) (i : Nat) (v : Value) (h : i < ts.size) : (ts.setIfInBounds i v).getD i undef = v := by
  simp [Array.getD_eq_getD_getElem?, h]
attribute [local go_sem] getD_set_ne getD_set_self Array.size_setIfInBounds
set_option maxRecDepth 100000 in
set_option maxHeartbeats 4000000 in
theorem double_any (b : Bool) (A : Option Addr) (l : List Int) (c : Nat) (w : World) (hr : ReadsInt w .u8 A l.length l) (hby : Bytes l) (hc : l.length ≤ c) (hl : l.length ≤ 35184372088832) :
    Calls Try.prog 34 #[.slice A l.length c, .bool b] w (PtsPost w (resV (dbl b l.length l))) := by
  have HR := Lib.hid hr
  have HBY := Lib.hid hby
  obtain ⟨V, hV⟩ : ∃ V, resV (dbl b l.length l) = V := ⟨_, rfl⟩
  rw [hV]
  have HV := Lib.hid hV
  clear hr hby hV
  go_enter Try.func34, Try.ntmps34
  go_wp2
  refine wp_scope_jumps 0 (Wrong w V) (fun _ _ => 0) (by rfl) ?_ ?_
  · go_wp2
    go_loopw [6, 7] (fun s6 s7 wr => ∃ (acc : List Int) (n f : Nat), n ≤ l.length ∧ s7 = .int .i64 n ∧ Hid (ORow .i32 21 wr w.heap.size s6 acc) ∧ Hid (wr.heap[w.heap.size]? = some (.cells #[.int .i64 0, .int .i64 0] 26 (0, 0))) ∧ Hid (Below w.heap.size w wr) ∧ Hid (dbl b l.length l = joinD acc n (dbl b f (l.drop n))) ∧ Hid (l.length - n ≤ f) ∧ Hid (acc.length ≤ n)) (fun _ s7 _ => l.length - (intOf s7).toNat)
    case atStart =>
      refine ⟨[], 0, l.length, Nat.zero_le _, rfl, Lib.hid (ORow.nil _ _ _ _), Lib.hid ?_, Lib.hid (below_first _), Lib.hid ?_, Lib.hid (by omega), Lib.hid (Nat.zero_le _)⟩
      · exact heap_alloc_new w _
      · simp [joinD]
    case round =>
      obtain ⟨acc, n, f, hn, rfl, HO, HF, HB, HD, Hf, HA⟩ := hrel
      have HW : wr.heap.size ≥ w.heap.size := HB.out.size
      by_cases hlt : n < l.length
      · obtain ⟨f, rfl⟩ : ∃ f', f = f' + 1 := ⟨f - 1, by have := Hf.out; omega⟩
        have HLD : Hid ((l.drop n).length = l.length - n) := Lib.hid List.length_drop
        have HST := Lib.hid (dbl_step b f (l.drop n))
        by_cases h2 : l.length - n < 2
        · have hV : V = ([], (n : Int), 20) := by
            rw [← HV.out]
            exact resV_wrong HD.out (by rw [HST.out, if_neg (by have := HLD.out; omega), if_pos (by have := HLD.out; omega)])
          have HVV := Lib.hid hV
          have d1 : decide ((l.length : Int) - (n : Int) < 2) = true := decide_eq_true (by omega)
          have hd2 : (l.length : Int) - (n : Int) < 2 := by omega
          clear hV h2
          go_wp2
          go_step3
          exact ⟨rfl, rfl, rfl, rfl, ⟨n, rfl, HVV.out⟩, HF.out, HB.out⟩
        · have hd2 : ¬ (l.length : Int) - (n : Int) < 2 := by omega
          obtain ⟨i0, hi0, _, hsz, _⟩ := info_parts infoU8
          obtain ⟨A1, hcut0, hA1, hC1⟩ := print_drop_of (P := Try.prog) (Value.int .u8) (0 : Int) 22 5 .i64 Try.underlying22 hi0 hsz A c l (n : Int) (by omega) (by omega) hc
          simp only [Int.toNat_natCast] at hcut0 hA1 hC1
          have HR1 := Lib.hid (hA1 _ (HR.out.below HB.out))
          have HBY1 := Lib.hid (HBY.out.drop n)
          have HQ : Hid (∀ m, l.drop (n + m) = (l.drop n).drop m) := Lib.hid fun m => by rw [List.drop_drop]
          have HQ2 : Hid (l.drop (n + 2) = (l.drop n).drop 2) := Lib.hid (by rw [List.drop_drop])
          have HR2 := Lib.hid (fun A2 c2 (h : ∀ (w : World) , ReadsOf (Value.int .u8) (0 : Int) w A l.length l → ReadsOf (Value.int .u8) (0 : Int) w A2 (l.drop (n + 2)).length (l.drop (n + 2))) (_ : (l.drop (n + 2)).length ≤ c2) => h)
          generalize hq : l.drop n = q at *
          have HQE := Lib.hid hq
          have hql : q.length = l.length - n := HLD.out
          have HU := Lib.hid (unitV_range HBY1.out b)
          have HUC := Lib.hid (unit_bel A1 _ q b wr HR1.out HBY1.out hC1 (by omega))
          clear hq hA1
          generalize hu : unitV q b = u at *
          have HUE := Lib.hid hu
          clear hu
          have hu0 := HU.out.1
          have hu1 := HU.out.2
          by_cases h3 : u < 55296 ∨ 57343 < u
          · have HD2 : Hid (dbl b l.length l = joinD (acc ++ [u]) (n + 2) (dbl b f (l.drop (n + 2)))) := Lib.hid (by
              rw [HD.out, HST.out, if_neg (by omega), if_neg (by omega), if_pos h3, joinD_joinD, HQ.out 2])
            have hnm : n + 2 ≤ l.length := by omega
            have h3' : u < 55296 ∨ (¬ u < 55296 ∧ 57343 < u) := by omega
            clear HD HST hql h3 hi0 hsz
            rcases h3' with h3 | ⟨h3, h4⟩
            all_goals
              go_wp2_with (first
                | (go_at_call 45; ((with_reducible refine HUC.out.mono ?_); rintro e w1 ⟨rfl, hB1⟩; have HF1 := Lib.hid (blk_below HF.out hB1); have HO1 := Lib.hid (HO.out.below hB1); have HB1 := Lib.hid (below_then HB.out HW hB1); have HW1 : w1.heap.size ≥ w.heap.size := HB1.out.size; clear hB1))
                | (at_builtin; refine print_append_num (w0 := w) w.heap.size rfl (.tmp 55) (.tmp 57) 32 21 .i32 4 rfl Try.underlying32 infoI32 (by decide) _ acc u rfl rfl HO1.out HB1.out HW1 (by have := HA.out; omega) ?_; intro v1 w2 hO2 hB2 hg2 _; have HO2 := Lib.hid hO2; have HB2 := Lib.hid hB2; have HF2 := Lib.hid ((hg2.block _ (blk_lt HF1.out) (own_ne HO1.out HF1.out (by decide))).trans HF1.out); clear hO2 hB2 hg2))
              go_roundw
              case rel => exact ⟨acc ++ [u], n + 2, f, hnm, by go_num, HO2, HF2, HB2, HD2, Lib.hid (by have := Hf.out; omega), Lib.hid (by have := HA.out; simp; omega)⟩
              case measure => simp [intOf]; omega
          · by_cases h4 : 56320 ≤ u ∨ l.length - n < 4
            · have hV : V = ([], (n : Int), 20) := by
                rw [← HV.out]
                refine resV_wrong (f := f) (by rw [HQE.out]; exact HD.out) ?_
                rw [HQE.out, HST.out, if_neg (by omega), if_neg (by omega), if_neg h3, if_pos (by omega)]
              have HVV := Lib.hid hV
              have h5 : ¬ u < 55296 := by omega
              have h6 : ¬ 57343 < u := by omega
              have h4' : 56320 ≤ u ∨ (¬ 56320 ≤ u ∧ (l.length : Int) - (n : Int) < 4) := by omega
              clear hV h3 h4 hql hi0 hsz
              rcases h4' with h4 | ⟨h4, h7⟩
              all_goals
                go_wp2_with (first
                  | (go_at_call 45; ((with_reducible refine HUC.out.mono ?_); rintro e w1 ⟨rfl, hB1⟩; have HF1 := Lib.hid (blk_below HF.out hB1); have HB1 := Lib.hid (below_then HB.out HW hB1); clear hB1)))
                go_step3
                exact ⟨rfl, rfl, rfl, rfl, ⟨n, rfl, HVV.out⟩, HF1.out, HB1.out⟩
            · have hn2 : n + 2 ≤ l.length := by omega
              obtain ⟨A2, hcut2, hA2, hC2⟩ := print_drop_of (P := Try.prog) (Value.int .u8) (0 : Int) 22 5 .i64 Try.underlying22 hi0 hsz A c l ((n : Int) + 2) (by omega) (by omega) hc
              rw [show ((n : Int) + 2).toNat = n + 2 by omega] at hcut2 hA2 hC2
              have HA2 := Lib.hid hA2
              have HBY2 := Lib.hid (HBY.out.drop (n + 2))
              rw [HQ2.out] at hcut2 hC2 HA2 HBY2
              have hq2l : (q.drop 2).length = l.length - n - 2 := by rw [List.length_drop, hql]
              generalize hq2 : q.drop 2 = q2 at *
              have HQ2E := Lib.hid hq2
              have HU2 := Lib.hid (unitV_range HBY2.out b)
              have HUC2 := Lib.hid (fun W (h : ReadsInt W .u8 A2 q2.length q2) => unit_bel A2 _ q2 b W h HBY2.out hC2 (by omega))
              clear hq2 hA2
              generalize hv : unitV q2 b = v at *
              have HVE := Lib.hid hv
              clear hv
              have hv0 := HU2.out.1
              have hv1 := HU2.out.2
              have h5 : ¬ u < 55296 := by omega
              have h6 : ¬ 57343 < u := by omega
              have h7 : ¬ 56320 ≤ u := by omega
              have h8 : ¬ (l.length : Int) - (n : Int) < 4 := by omega
              by_cases h9 : v < 56320 ∨ 57343 < v
              · have hV : V = ([], (n : Int), 20) := by
                  rw [← HV.out]
                  refine resV_wrong (f := f) (by rw [HQE.out]; exact HD.out) ?_
                  rw [HQE.out, HST.out, if_neg (by omega), if_neg (by omega), if_neg h3, if_neg (by omega), if_pos h9]
                have HVV := Lib.hid hV
                have h9' : v < 56320 ∨ (¬ v < 56320 ∧ 57343 < v) := by omega
                clear hV h3 h4 hql hi0 hsz hq2l h9
                rcases h9' with h9 | ⟨h9, h10⟩
                all_goals
                  go_wp2_with (first
                    | (go_at_call 45; ((with_reducible refine HUC.out.mono ?_); rintro e w1 ⟨rfl, hB1⟩; have HF1 := Lib.hid (blk_below HF.out hB1); have HB1 := Lib.hid (below_then HB.out HW hB1); have HW1 : w1.heap.size ≥ w.heap.size := HB1.out.size; have HRB : Hid (ReadsInt w1 .u8 A2 q2.length q2) := Lib.hid (HA2.out _ (HR.out.below HB1.out)); clear hB1))
                    | (go_at_call 45; ((with_reducible refine (HUC2.out _ HRB.out).mono ?_); rintro e w2 ⟨rfl, hB2⟩; have HF2 := Lib.hid (blk_below HF1.out hB2); have HB2 := Lib.hid (below_then HB1.out HW1 hB2); clear hB2)))
                  go_step3
                  exact ⟨rfl, rfl, rfl, rfl, ⟨n, rfl, HVV.out⟩, HF2.out, HB2.out⟩
              · have HD2 : Hid (dbl b l.length l = joinD (acc ++ [65536 + (u - 55296) * 1024 + (v - 56320)]) (n + 4) (dbl b f (l.drop (n + 4)))) := Lib.hid (by
                  rw [HD.out, HST.out, if_neg (by omega), if_neg (by omega), if_neg h3, if_neg (by omega), if_neg h9, joinD_joinD, HQ.out 4])
                have hnm : n + 4 ≤ l.length := by omega
                have h10 : ¬ v < 56320 := by omega
                have h11 : ¬ 57343 < v := by omega
                clear HD HST hql h3 h4 hq2l h9 hi0 hsz
                go_wp2_with (first
                  | (go_at_call 45; ((with_reducible refine HUC.out.mono ?_); rintro e w1 ⟨rfl, hB1⟩; have HF1 := Lib.hid (blk_below HF.out hB1); have HO1 := Lib.hid (HO.out.below hB1); have HB1 := Lib.hid (below_then HB.out HW hB1); have HW1 : w1.heap.size ≥ w.heap.size := HB1.out.size; have HRB : Hid (ReadsInt w1 .u8 A2 q2.length q2) := Lib.hid (HA2.out _ (HR.out.below HB1.out)); clear hB1))
                  | (go_at_call 45; ((with_reducible refine (HUC2.out _ HRB.out).mono ?_); rintro e w2 ⟨rfl, hB2⟩; have HF2 := Lib.hid (blk_below HF1.out hB2); have HO2 := Lib.hid (HO1.out.below hB2); have HB2 := Lib.hid (below_then HB1.out HW1 hB2); have HW2 : w2.heap.size ≥ w.heap.size := HB2.out.size; clear hB2))
                  | (at_builtin; refine print_append_num (w0 := w) w.heap.size rfl (.tmp 36) (.tmp 44) 32 21 .i32 4 rfl Try.underlying32 infoI32 (by decide) _ acc (65536 + (u - 55296) * 1024 + (v - 56320)) rfl rfl HO2.out HB2.out HW2 (by have := HA.out; omega) ?_; intro v1 w3 hO3 hB3 hg3 _; have HO3 := Lib.hid hO3; have HB3 := Lib.hid hB3; have HF3 := Lib.hid ((hg3.block _ (blk_lt HF2.out) (own_ne HO2.out HF2.out (by decide))).trans HF2.out); clear hO3 hB3 hg3))
                go_roundw
                case rel => exact ⟨acc ++ [_], n + 4, f, hnm, by go_num, HO3, HF3, HB3, HD2, Lib.hid (by have := Hf.out; omega), Lib.hid (by have := HA.out; simp; omega)⟩
                case measure => simp [intOf]; omega
      · have hnl : n = l.length := by omega
        have hV : V = (acc, 0, 0) := by
          have h1 : dbl b f (l.drop n) = ([], none) := by
            rw [hnl, List.drop_length]; cases f <;> simp [dbl]
          have h2 := HD.out
          rw [h1] at h2
          rw [← HV.out]
          simp [resV, h2, joinD]
        have HVV := Lib.hid hV
        clear hV HD
        have c0 : wr.cell? ⟨w.heap.size, 0, none⟩ = some (.int .i64 0) := (blk_cell HF.out 0).trans rfl
        have c1 : wr.cell? ⟨w.heap.size, 1, none⟩ = some (.int .i64 0) := (blk_cell HF.out 1).trans rfl
        have z0 := blk_frozen HF.out 0
        have z1 := blk_frozen HF.out 1
        clear hnl
        go_wp2
        have HF1 := blk_set (blk_set HF.out 0 (.int .i64 0)) 1 (.int .i64 0)
        refine bodyPost_ret (results_tc rfl _ _ _ _ _ _ _ rfl HF1 Try.underlying26 rfl (by kernel_rfl)) rfl ?_
        rw [HVV.out]
        exact ⟨_, rfl, (HO.out.set_ HF.out (by decide) 0 _).set_ (blk_set HF.out 0 _) (by decide) 1 _, below_set (below_set HB.out (Nat.le_refl _)) (Nat.le_refl _)⟩
  · rintro ⟨ts, df⟩ w' ⟨h1, h2, h5, ⟨n, h7, hV⟩, hF, hB⟩
    have HVV := Lib.hid hV
    have HF := Lib.hid hF
    have HB := Lib.hid hB
    have c0 : w'.cell? ⟨w.heap.size, 0, none⟩ = some (.int .i64 0) := (blk_cell hF 0).trans rfl
    have c1 : w'.cell? ⟨w.heap.size, 1, none⟩ = some (.int .i64 0) := (blk_cell hF 1).trans rfl
    have z0 := blk_frozen hF 0
    have z1 := blk_frozen hF 1
    clear hV hF hB
    replace h1 : df = [] := h1
    replace h2 : ts.size = 75 := h2
    have e5 : ts[5]'(by omega) = .pointer (some ⟨w.heap.size, 0, none⟩) := by
      have h := h5
      simpa [Array.getD_eq_getD_getElem?, Array.getElem?_eq_getElem (show 5 < ts.size by omega)] using h
    have e7 : ts[7]'(by omega) = .int .i64 n := by
      have h := h7
      simpa [Array.getD_eq_getD_getElem?, Array.getElem?_eq_getElem (show 7 < ts.size by omega)] using h
    go_wp2
    have HF1 := blk_set (blk_set HF.out 0 (.int .i64 (n : Int))) 1 (.int .i64 20)
    refine bodyPost_ret (results_tc (by rfl) _ _ _ _ _ _ _ ((getD_set_ne _ 4 5 _ (by decide)).trans ((getD_set_ne _ 74 5 _ (by decide)).trans ((getD_set_ne _ 73 5 _ (by decide)).trans h5))) HF1 Try.underlying26 rfl (by kernel_rfl)) rfl ?_
    rw [HVV.out]
    have e4 : (((ts.setIfInBounds 73 (.int .i64 (n : Int))).setIfInBounds 74 (.agg #[.int .i64 (n : Int), .int .i64 20])).setIfInBounds 4 (.slice none 0 0)).getD 4 undef = .slice none 0 0 := getD_set_self _ 4 _ (by simp [h2])
    exact ⟨_, congrArg (fun v => Ending.returned (.tuple #[v, .agg #[.int .i64 (n : Int), .int .i64 20]])) e4, ORow.nil _ _ _ _, below_set (below_set HB.out (Nat.le_refl _)) (Nat.le_refl _)⟩
end Go.Proofs.Ytpbgpbblbohmgaa
namespace Go.Proofs.Ytpbgpbblbohmgaa
open Go.RowKit Go.Proofs.YtpbgpbblbohmgaaW.PrintWords

def markV (l : List Int) : List Int × Option Nat :=
  if 2 ≤ l.length ∧ unitV l false = 65279 then joinD [] 2 (dbl false (l.drop 2).length (l.drop 2)) else
  if 2 ≤ l.length ∧ unitV l false = 65534 then joinD [] 2 (dbl true (l.drop 2).length (l.drop 2)) else dbl false l.length l
def shiftR (r : List Int × Int × Int) (m : Int) : List Int × Int × Int := if r.2.2 = 0 then r else (r.1, r.2.1 + m, r.2.2)
theorem shiftR_zero (r : List Int × Int × Int) : shiftR r 0 = r := by
  unfold shiftR; split
  · rfl
  · rw [Int.add_zero]
theorem resV_join (d : List Int × Option Nat) (m : Nat) : resV (joinD [] m d) = shiftR (resV d) m := by
  rcases d with ⟨xs, _ | n⟩ <;> simp [resV, joinD, shiftR]
theorem resV_code (d : List Int × Option Nat) : (resV d).2.2 = 0 ∨ (resV d).2.2 = 20 := by
  rcases d with ⟨xs, _ | n⟩ <;> simp [resV]
theorem dbl_at (b : Bool) : ∀ (f : Nat) (l : List Int) (n : Nat), (dbl b f l).2 = some n → n ≤ l.length
  | 0, l, n, h => by simp [dbl] at h
  | f + 1, l, n, h => by
    have ih := dbl_at b f
    rw [dbl_step] at h
    by_cases c0 : l.length = 0
    · rw [if_pos c0] at h; cases h
    · rw [if_neg c0] at h
      by_cases c1 : l.length < 2
      · rw [if_pos c1] at h; injection h with h; omega
      · rw [if_neg c1] at h
        by_cases c2 : unitV l b < 55296 ∨ 57343 < unitV l b
        · rw [if_pos c2] at h
          simp only [joinD, Option.map_eq_some_iff] at h
          obtain ⟨m, hm, rfl⟩ := h
          have := ih _ _ hm
          rw [List.length_drop] at this
          omega
        · rw [if_neg c2] at h
          by_cases c3 : 56320 ≤ unitV l b ∨ l.length < 4
          · rw [if_pos c3] at h; injection h with h; omega
          · rw [if_neg c3] at h
            by_cases c4 : unitV (l.drop 2) b < 56320 ∨ 57343 < unitV (l.drop 2) b
            · rw [if_pos c4] at h; injection h with h; omega
            · rw [if_neg c4] at h
              simp only [joinD, Option.map_eq_some_iff] at h
              obtain ⟨m, hm, rfl⟩ := h
              have := ih _ _ hm
              rw [List.length_drop] at this
              omega
theorem resV_at {d : List Int × Option Nat} {L : Nat} (h : ∀ n, d.2 = some n → n ≤ L) : 0 ≤ (resV d).2.1 ∧ (resV d).2.1 ≤ L := by
  rcases d with ⟨xs, _ | n⟩
  · simp [resV]
  · have := h n rfl
    simp only [resV]; omega
theorem heap_alloc_new' (w : World) (o : Obj) (g : Nat) (h : g = w.heap.size) : (w.alloc o).heap[g]? = some o := h ▸ heap_alloc_new w o
set_option maxRecDepth 100000 in
set_option maxHeartbeats 4000000 in
theorem marked_short (A : Option Addr) (l : List Int) (c : Nat) (w : World) (hr : ReadsInt w .u8 A l.length l) (hby : Bytes l) (hc : l.length ≤ c) (hl : l.length ≤ 35184372088832) (h2 : l.length < 2) :
    Calls Try.prog 33 #[.slice A l.length c] w (PtsPost w (shiftR (resV (dbl false (l.drop 0).length (l.drop 0))) 0)) := by
  have HR := Lib.hid hr
  have HBY := Lib.hid hby
  obtain ⟨i0, hi0, _, hsz, _⟩ := info_parts infoU8
  obtain ⟨A1, hcut0, hA1, hC1⟩ := print_drop_of (P := Try.prog) (Value.int .u8) (0 : Int) 22 5 .i64 Try.underlying22 hi0 hsz A c l (0 : Int) (by omega) (by omega) hc
  rw [show ((0 : Int)).toNat = 0 from rfl] at hcut0 hA1 hC1
  try simp only [Nat.sub_zero] at hcut0 hC1
  have HR1 : Hid (∀ W, ReadsInt W .u8 A l.length l → ReadsInt W .u8 A1 (l.drop 0).length (l.drop 0)) := Lib.hid (fun W h => hA1 W h)
  have hq0 : (l.drop 0).length ≤ l.length := by rw [List.length_drop]; omega
  have HDC := Lib.hid (fun W h => double_any false A1 (l.drop 0) _ W h (hby.drop 0) hC1 (by omega))
  have hcd := resV_code (dbl false (l.drop 0).length (l.drop 0))
  have hat := resV_at (dbl_at false (l.drop 0).length (l.drop 0))
  have d1 : decide (2 ≤ (l.length : Int)) = false := decide_eq_false (by omega)
  have d2 : ¬ (2 : Int) ≤ (l.length : Int) := by omega
  clear h2
  clear hA1 hr hi0 hsz hby
  generalize (l.drop 0) = q at *
  have hat1 : (resV (dbl false q.length q)).2.1 ≤ 35184372088832 := by omega
  have hat0 := hat.1
  clear hat hq0
  rcases hrs : resV (dbl false q.length q) with ⟨xs, at_, cd⟩
  rw [hrs] at HDC hcd hat0 hat1
  simp only at hcd hat0 hat1
  clear hrs
  rcases hcd with rfl | rfl
  all_goals
    go_enter Try.func33, Try.ntmps33
    go_wp2_with (first
      | (go_at_call 34; ((with_reducible refine (HDC.out _ (HR1.out _ (HR.out.below (below_first _)))).mono ?_); rintro e w1 ⟨v, rfl, hO, hB⟩; have HF1 := Lib.hid (blk_below (heap_alloc_new w (.cells #[.int .i64 0, .int .i64 0] 26)) hB); have HO1 := Lib.hid (ORow.lower (base' := w.heap.size) hO ((below_first _).size)); have HB1 := Lib.hid (below_then (below_first _) ((below_first _).size) hB); have c0 : w1.cell? ⟨w.heap.size, 0, none⟩ = some (.int .i64 0) := (blk_cell HF1.out 0).trans rfl; have c1 : w1.cell? ⟨w.heap.size, 1, none⟩ = some (.int .i64 0) := (blk_cell HF1.out 1).trans rfl; have z0 := blk_frozen HF1.out 0; have z1 := blk_frozen HF1.out 1; have hszz : w.heap.size < w1.heap.size := blk_lt HF1.out; clear hO hB)))
    go_region
    go_wp2
  · have HF2 := blk_below (blk_set (blk_set HF1.out 0 (.int .i64 at_)) 1 (.int .i64 0)) (below_first (.cells #[.int .i64 at_, .int .i64 0] 26))
    refine bodyPost_ret (results_tc rfl _ _ _ _ _ _ _ rfl HF2 Try.underlying26 rfl (by kernel_rfl)) rfl ?_
    exact ⟨_, rfl, ORow.drew (((HO1.out.set_ HF1.out (by decide) 0 _).set_ (blk_set HF1.out 0 _) (by decide) 1 _).alloc _), b_drew (below_alloc (below_set (below_set HB1.out (Nat.le_refl _)) (Nat.le_refl _)) _)⟩
  · have HF2 := blk_below (blk_set (blk_set HF1.out 0 (.int .i64 (at_))) 1 (.int .i64 20)) (below_first (.cells #[.int .i64 (at_), .int .i64 20] 26))
    refine bodyPost_ret (results_tc rfl _ _ _ _ _ _ _ rfl HF2 Try.underlying26 rfl (by kernel_rfl)) rfl ?_
    exact ⟨_, by simp [shiftR], ORow.drew (((HO1.out.set_ HF1.out (by decide) 0 _).set_ (blk_set HF1.out 0 _) (by decide) 1 _).alloc _), b_drew (below_alloc (below_set (below_set HB1.out (Nat.le_refl _)) (Nat.le_refl _)) _)⟩
set_option maxRecDepth 100000 in
set_option maxHeartbeats 4000000 in
theorem marked_big (A : Option Addr) (l : List Int) (c : Nat) (w : World) (hr : ReadsInt w .u8 A l.length l) (hby : Bytes l) (hc : l.length ≤ c) (hl : l.length ≤ 35184372088832) (h2 : 2 ≤ l.length) (hu : unitV l false = 65279) :
    Calls Try.prog 33 #[.slice A l.length c] w (PtsPost w (shiftR (resV (dbl false (l.drop 2).length (l.drop 2))) 2)) := by
  have HR := Lib.hid hr
  have HBY := Lib.hid hby
  obtain ⟨i0, hi0, _, hsz, _⟩ := info_parts infoU8
  obtain ⟨A1, hcut0, hA1, hC1⟩ := print_drop_of (P := Try.prog) (Value.int .u8) (0 : Int) 22 5 .i64 Try.underlying22 hi0 hsz A c l (2 : Int) (by omega) (by omega) hc
  rw [show ((2 : Int)).toNat = 2 from rfl] at hcut0 hA1 hC1
  try simp only [Nat.sub_zero] at hcut0 hC1
  have HR1 : Hid (∀ W, ReadsInt W .u8 A l.length l → ReadsInt W .u8 A1 (l.drop 2).length (l.drop 2)) := Lib.hid (fun W h => hA1 W h)
  have hq0 : (l.drop 2).length ≤ l.length := by rw [List.length_drop]; omega
  have HDC := Lib.hid (fun W h => double_any false A1 (l.drop 2) _ W h (hby.drop 2) hC1 (by omega))
  have hcd := resV_code (dbl false (l.drop 2).length (l.drop 2))
  have hat := resV_at (dbl_at false (l.drop 2).length (l.drop 2))
  have HUC := Lib.hid (fun W h => unit_bel A c l false W h hby hc h2)
  have d1 : decide (2 ≤ (l.length : Int)) = true := decide_eq_true (by omega)
  have d2 : (2 : Int) ≤ (l.length : Int) := by omega
  rw [hu] at HUC
  clear hu h2
  clear hA1 hr hi0 hsz hby
  generalize (l.drop 2) = q at *
  have hat1 : (resV (dbl false q.length q)).2.1 ≤ 35184372088832 := by omega
  have hat0 := hat.1
  clear hat hq0
  rcases hrs : resV (dbl false q.length q) with ⟨xs, at_, cd⟩
  rw [hrs] at HDC hcd hat0 hat1
  simp only at hcd hat0 hat1
  clear hrs
  rcases hcd with rfl | rfl
  all_goals
    go_enter Try.func33, Try.ntmps33
    go_wp2_with (first
      | (go_at_call 45; ((with_reducible refine (HUC.out _ (HR.out.below (below_first _))).mono ?_); rintro e w0 ⟨rfl, hB0⟩; have HB0 := Lib.hid (below_then (below_first _) (below_first _).size hB0); have HF0 := Lib.hid (blk_below (heap_alloc_new w (.cells #[.int .i64 0, .int .i64 0] 26)) hB0); clear hB0))
      | (go_at_call 34; ((with_reducible refine (HDC.out _ (HR1.out _ (HR.out.below (HB0.out)))).mono ?_); rintro e w1 ⟨v, rfl, hO, hB⟩; have HF1 := Lib.hid (blk_below (HF0.out) hB); have HO1 := Lib.hid (ORow.lower (base' := w.heap.size) hO (HB0.out.size)); have HB1 := Lib.hid (below_then (HB0.out) (HB0.out.size) hB); have c0 : w1.cell? ⟨w.heap.size, 0, none⟩ = some (.int .i64 0) := (blk_cell HF1.out 0).trans rfl; have c1 : w1.cell? ⟨w.heap.size, 1, none⟩ = some (.int .i64 0) := (blk_cell HF1.out 1).trans rfl; have z0 := blk_frozen HF1.out 0; have z1 := blk_frozen HF1.out 1; have hszz : w.heap.size < w1.heap.size := blk_lt HF1.out; clear hO hB)))
    go_region
    go_wp2
  · have HF2 := blk_below (blk_set (blk_set HF1.out 0 (.int .i64 at_)) 1 (.int .i64 0)) (below_first (.cells #[.int .i64 at_, .int .i64 0] 26))
    refine bodyPost_ret (results_tc rfl _ _ _ _ _ _ _ rfl HF2 Try.underlying26 rfl (by kernel_rfl)) rfl ?_
    exact ⟨_, rfl, ORow.drew (((HO1.out.set_ HF1.out (by decide) 0 _).set_ (blk_set HF1.out 0 _) (by decide) 1 _).alloc _), b_drew (below_alloc (below_set (below_set HB1.out (Nat.le_refl _)) (Nat.le_refl _)) _)⟩
  · have HF2 := blk_below (blk_set (blk_set HF1.out 0 (.int .i64 (at_ + 2))) 1 (.int .i64 20)) (below_first (.cells #[.int .i64 (at_ + 2), .int .i64 20] 26))
    refine bodyPost_ret (results_tc rfl _ _ _ _ _ _ _ rfl HF2 Try.underlying26 rfl (by kernel_rfl)) rfl ?_
    exact ⟨_, by simp [shiftR], ORow.drew (((HO1.out.set_ HF1.out (by decide) 0 _).set_ (blk_set HF1.out 0 _) (by decide) 1 _).alloc _), b_drew (below_alloc (below_set (below_set HB1.out (Nat.le_refl _)) (Nat.le_refl _)) _)⟩
set_option maxRecDepth 100000 in
set_option maxHeartbeats 4000000 in
theorem marked_little (A : Option Addr) (l : List Int) (c : Nat) (w : World) (hr : ReadsInt w .u8 A l.length l) (hby : Bytes l) (hc : l.length ≤ c) (hl : l.length ≤ 35184372088832) (h2 : 2 ≤ l.length) (hu : unitV l false = 65534) :
    Calls Try.prog 33 #[.slice A l.length c] w (PtsPost w (shiftR (resV (dbl true (l.drop 2).length (l.drop 2))) 2)) := by
  have HR := Lib.hid hr
  have HBY := Lib.hid hby
  obtain ⟨i0, hi0, _, hsz, _⟩ := info_parts infoU8
  obtain ⟨A1, hcut0, hA1, hC1⟩ := print_drop_of (P := Try.prog) (Value.int .u8) (0 : Int) 22 5 .i64 Try.underlying22 hi0 hsz A c l (2 : Int) (by omega) (by omega) hc
  rw [show ((2 : Int)).toNat = 2 from rfl] at hcut0 hA1 hC1
  try simp only [Nat.sub_zero] at hcut0 hC1
  have HR1 : Hid (∀ W, ReadsInt W .u8 A l.length l → ReadsInt W .u8 A1 (l.drop 2).length (l.drop 2)) := Lib.hid (fun W h => hA1 W h)
  have hq0 : (l.drop 2).length ≤ l.length := by rw [List.length_drop]; omega
  have HDC := Lib.hid (fun W h => double_any true A1 (l.drop 2) _ W h (hby.drop 2) hC1 (by omega))
  have hcd := resV_code (dbl true (l.drop 2).length (l.drop 2))
  have hat := resV_at (dbl_at true (l.drop 2).length (l.drop 2))
  have HUC := Lib.hid (fun W h => unit_bel A c l false W h hby hc h2)
  have d1 : decide (2 ≤ (l.length : Int)) = true := decide_eq_true (by omega)
  have d2 : (2 : Int) ≤ (l.length : Int) := by omega
  rw [hu] at HUC
  clear hu h2
  clear hA1 hr hi0 hsz hby
  generalize (l.drop 2) = q at *
  have hat1 : (resV (dbl true q.length q)).2.1 ≤ 35184372088832 := by omega
  have hat0 := hat.1
  clear hat hq0
  rcases hrs : resV (dbl true q.length q) with ⟨xs, at_, cd⟩
  rw [hrs] at HDC hcd hat0 hat1
  simp only at hcd hat0 hat1
  clear hrs
  rcases hcd with rfl | rfl
  all_goals
    go_enter Try.func33, Try.ntmps33
    go_wp2_with (first
      | (go_at_call 45; ((with_reducible refine (HUC.out _ (HR.out.below (below_first _))).mono ?_); rintro e w0 ⟨rfl, hB0⟩; have HB0 := Lib.hid (below_then (below_first _) (below_first _).size hB0); have HF0 := Lib.hid (blk_below (heap_alloc_new w (.cells #[.int .i64 0, .int .i64 0] 26)) hB0); clear hB0))
      | (go_at_call 34; ((with_reducible refine (HDC.out _ (HR1.out _ (HR.out.below (HB0.out)))).mono ?_); rintro e w1 ⟨v, rfl, hO, hB⟩; have HF1 := Lib.hid (blk_below (HF0.out) hB); have HO1 := Lib.hid (ORow.lower (base' := w.heap.size) hO (HB0.out.size)); have HB1 := Lib.hid (below_then (HB0.out) (HB0.out.size) hB); have c0 : w1.cell? ⟨w.heap.size, 0, none⟩ = some (.int .i64 0) := (blk_cell HF1.out 0).trans rfl; have c1 : w1.cell? ⟨w.heap.size, 1, none⟩ = some (.int .i64 0) := (blk_cell HF1.out 1).trans rfl; have z0 := blk_frozen HF1.out 0; have z1 := blk_frozen HF1.out 1; have hszz : w.heap.size < w1.heap.size := blk_lt HF1.out; clear hO hB)))
    go_region
    go_wp2
  · have HF2 := blk_below (blk_set (blk_set HF1.out 0 (.int .i64 at_)) 1 (.int .i64 0)) (below_first (.cells #[.int .i64 at_, .int .i64 0] 26))
    refine bodyPost_ret (results_tc rfl _ _ _ _ _ _ _ rfl HF2 Try.underlying26 rfl (by kernel_rfl)) rfl ?_
    exact ⟨_, rfl, ORow.drew (((HO1.out.set_ HF1.out (by decide) 0 _).set_ (blk_set HF1.out 0 _) (by decide) 1 _).alloc _), b_drew (below_alloc (below_set (below_set HB1.out (Nat.le_refl _)) (Nat.le_refl _)) _)⟩
  · have HF2 := blk_below (blk_set (blk_set HF1.out 0 (.int .i64 (at_ + 2))) 1 (.int .i64 20)) (below_first (.cells #[.int .i64 (at_ + 2), .int .i64 20] 26))
    refine bodyPost_ret (results_tc rfl _ _ _ _ _ _ _ rfl HF2 Try.underlying26 rfl (by kernel_rfl)) rfl ?_
    exact ⟨_, by simp [shiftR], ORow.drew (((HO1.out.set_ HF1.out (by decide) 0 _).set_ (blk_set HF1.out 0 _) (by decide) 1 _).alloc _), b_drew (below_alloc (below_set (below_set HB1.out (Nat.le_refl _)) (Nat.le_refl _)) _)⟩
set_option maxRecDepth 100000 in
set_option maxHeartbeats 4000000 in
theorem marked_plain (A : Option Addr) (l : List Int) (c : Nat) (w : World) (hr : ReadsInt w .u8 A l.length l) (hby : Bytes l) (hc : l.length ≤ c) (hl : l.length ≤ 35184372088832) (h2 : 2 ≤ l.length) (hu : unitV l false ≠ 65279) (hv : unitV l false ≠ 65534) :
    Calls Try.prog 33 #[.slice A l.length c] w (PtsPost w (shiftR (resV (dbl false (l.drop 0).length (l.drop 0))) 0)) := by
  have HR := Lib.hid hr
  have HBY := Lib.hid hby
  obtain ⟨i0, hi0, _, hsz, _⟩ := info_parts infoU8
  obtain ⟨A1, hcut0, hA1, hC1⟩ := print_drop_of (P := Try.prog) (Value.int .u8) (0 : Int) 22 5 .i64 Try.underlying22 hi0 hsz A c l (0 : Int) (by omega) (by omega) hc
  rw [show ((0 : Int)).toNat = 0 from rfl] at hcut0 hA1 hC1
  try simp only [Nat.sub_zero] at hcut0 hC1
  have HR1 : Hid (∀ W, ReadsInt W .u8 A l.length l → ReadsInt W .u8 A1 (l.drop 0).length (l.drop 0)) := Lib.hid (fun W h => hA1 W h)
  have hq0 : (l.drop 0).length ≤ l.length := by rw [List.length_drop]; omega
  have HDC := Lib.hid (fun W h => double_any false A1 (l.drop 0) _ W h (hby.drop 0) hC1 (by omega))
  have hcd := resV_code (dbl false (l.drop 0).length (l.drop 0))
  have hat := resV_at (dbl_at false (l.drop 0).length (l.drop 0))
  have HUC := Lib.hid (fun W h => unit_bel A c l false W h hby hc h2)
  have d1 : decide (2 ≤ (l.length : Int)) = true := decide_eq_true (by omega)
  have d2 : (2 : Int) ≤ (l.length : Int) := by omega
  generalize unitV l false = u at *
  have b1 : (u == 65279) = false := beq_eq_false_iff_ne.mpr hu
  have b2 : (u == 65534) = false := beq_eq_false_iff_ne.mpr hv
  clear hu hv h2
  clear hA1 hr hi0 hsz hby
  generalize (l.drop 0) = q at *
  have hat1 : (resV (dbl false q.length q)).2.1 ≤ 35184372088832 := by omega
  have hat0 := hat.1
  clear hat hq0
  rcases hrs : resV (dbl false q.length q) with ⟨xs, at_, cd⟩
  rw [hrs] at HDC hcd hat0 hat1
  simp only at hcd hat0 hat1
  clear hrs
  rcases hcd with rfl | rfl
  all_goals
    go_enter Try.func33, Try.ntmps33
    go_wp2_with (first
      | (go_at_call 45; ((with_reducible refine (HUC.out _ (HR.out.below (below_first _))).mono ?_); rintro e w0 ⟨rfl, hB0⟩; have HB0 := Lib.hid (below_then (below_first _) (below_first _).size hB0); have HF0 := Lib.hid (blk_below (heap_alloc_new w (.cells #[.int .i64 0, .int .i64 0] 26)) hB0); clear hB0))
      | (go_at_call 34; ((with_reducible refine (HDC.out _ (HR1.out _ (HR.out.below (HB0.out)))).mono ?_); rintro e w1 ⟨v, rfl, hO, hB⟩; have HF1 := Lib.hid (blk_below (HF0.out) hB); have HO1 := Lib.hid (ORow.lower (base' := w.heap.size) hO (HB0.out.size)); have HB1 := Lib.hid (below_then (HB0.out) (HB0.out.size) hB); have c0 : w1.cell? ⟨w.heap.size, 0, none⟩ = some (.int .i64 0) := (blk_cell HF1.out 0).trans rfl; have c1 : w1.cell? ⟨w.heap.size, 1, none⟩ = some (.int .i64 0) := (blk_cell HF1.out 1).trans rfl; have z0 := blk_frozen HF1.out 0; have z1 := blk_frozen HF1.out 1; have hszz : w.heap.size < w1.heap.size := blk_lt HF1.out; clear hO hB)))
    go_region
    go_wp2
  · have HF2 := blk_below (blk_set (blk_set HF1.out 0 (.int .i64 at_)) 1 (.int .i64 0)) (below_first (.cells #[.int .i64 at_, .int .i64 0] 26))
    refine bodyPost_ret (results_tc rfl _ _ _ _ _ _ _ rfl HF2 Try.underlying26 rfl (by kernel_rfl)) rfl ?_
    exact ⟨_, rfl, ORow.drew (((HO1.out.set_ HF1.out (by decide) 0 _).set_ (blk_set HF1.out 0 _) (by decide) 1 _).alloc _), b_drew (below_alloc (below_set (below_set HB1.out (Nat.le_refl _)) (Nat.le_refl _)) _)⟩
  · have HF2 := blk_below (blk_set (blk_set HF1.out 0 (.int .i64 (at_))) 1 (.int .i64 20)) (below_first (.cells #[.int .i64 (at_), .int .i64 20] 26))
    refine bodyPost_ret (results_tc rfl _ _ _ _ _ _ _ rfl HF2 Try.underlying26 rfl (by kernel_rfl)) rfl ?_
    exact ⟨_, by simp [shiftR], ORow.drew (((HO1.out.set_ HF1.out (by decide) 0 _).set_ (blk_set HF1.out 0 _) (by decide) 1 _).alloc _), b_drew (below_alloc (below_set (below_set HB1.out (Nat.le_refl _)) (Nat.le_refl _)) _)⟩
theorem marked_any (A : Option Addr) (l : List Int) (c : Nat) (w : World) (hr : ReadsInt w .u8 A l.length l) (hby : Bytes l) (hc : l.length ≤ c) (hl : l.length ≤ 35184372088832) :
    Calls Try.prog 33 #[.slice A l.length c] w (PtsPost w (resV (markV l))) := by
  by_cases h2 : 2 ≤ l.length
  · by_cases hu : unitV l false = 65279
    · rw [markV, if_pos ⟨h2, hu⟩, resV_join]
      exact marked_big A l c w hr hby hc hl h2 hu
    · by_cases hv : unitV l false = 65534
      · rw [markV, if_neg (fun h => hu h.2), if_pos ⟨h2, hv⟩, resV_join]
        exact marked_little A l c w hr hby hc hl h2 hv
      · rw [markV, if_neg (fun h => hu h.2), if_neg (fun h => hv h.2)]
        have h := marked_plain A l c w hr hby hc hl h2 hu hv
        rw [shiftR_zero, List.drop_zero] at h
        exact h
  · rw [markV, if_neg (fun h => h2 h.1), if_neg (fun h => h2 h.1)]
    have h := marked_short A l c w hr hby hc hl (by omega)
    rw [shiftR_zero, List.drop_zero] at h
    exact h
end Go.Proofs.Ytpbgpbblbohmgaa
namespace Go.Proofs.Ytpbgpbblbohmgaa
open Go.RowKit Go.Proofs.YtpbgpbblbohmgaaW.PrintWords

def pointsV (f : Int) (l : List Int) : List Int × Int × Int :=
  if f = 2 then ptsV l else if f = 6 then resV (markV l) else if f = 7 then resV (dbl false l.length l) else if f = 8 then resV (dbl true l.length l) else resV (sgl f l)
set_option maxRecDepth 100000 in
set_option maxHeartbeats 1000000 in
theorem points_utf (A : Option Addr) (l : List Int) (c : Nat) (w : World) (hr : ReadsInt w .u8 A l.length l) (hby : Bytes l) (hc : l.length ≤ c) (hl : l.length ≤ 35184372088832) :
    Calls Try.prog 20 #[.int .i64 2, .slice A l.length c] w (PtsPost w (ptsV l)) := by
  have HC := Lib.hid (fun W h => points_any A l c W h hby hc hl)
  have HR := Lib.hid hr
  generalize ptsV l = r at *
  clear hr hby
  go_enter Try.func20, Try.ntmps20
  go_wp2_with (first
    | (go_at_call 15; ((with_reducible refine (HC.out _ (HR.out.below (below_first _))).mono ?_); rintro e w1 ⟨v, rfl, hO, hB⟩; have HF1 := Lib.hid (blk_below (heap_alloc_new w (.cells #[.int .i64 0, .int .i64 0] 26)) hB); have HO1 := Lib.hid (ORow.lower (base' := w.heap.size) hO (below_first _).size); have HB1 := Lib.hid (below_then (below_first _) (below_first _).size hB); have c0 : w1.cell? ⟨w.heap.size, 0, none⟩ = some (.int .i64 0) := (blk_cell HF1.out 0).trans rfl; have c1 : w1.cell? ⟨w.heap.size, 1, none⟩ = some (.int .i64 0) := (blk_cell HF1.out 1).trans rfl; have z0 := blk_frozen HF1.out 0; have z1 := blk_frozen HF1.out 1; clear hO hB)))
  have HF2 := blk_set (blk_set HF1.out 0 (.int .i64 r.2.1)) 1 (.int .i64 r.2.2)
  refine bodyPost_ret (results_tc rfl _ _ _ _ _ _ _ rfl HF2 Try.underlying26 rfl (by kernel_rfl)) rfl ?_
  exact ⟨_, rfl, (HO1.out.set_ HF1.out (by decide) 0 _).set_ (blk_set HF1.out 0 _) (by decide) 1 _, below_set (below_set HB1.out (Nat.le_refl _)) (Nat.le_refl _)⟩
set_option maxRecDepth 100000 in
set_option maxHeartbeats 1000000 in
theorem points_mark (A : Option Addr) (l : List Int) (c : Nat) (w : World) (hr : ReadsInt w .u8 A l.length l) (hby : Bytes l) (hc : l.length ≤ c) (hl : l.length ≤ 35184372088832) :
    Calls Try.prog 20 #[.int .i64 6, .slice A l.length c] w (PtsPost w (resV (markV l))) := by
  have HC := Lib.hid (fun W h => marked_any A l c W h hby hc hl)
  have HR := Lib.hid hr
  generalize resV (markV l) = r at *
  clear hr hby
  go_enter Try.func20, Try.ntmps20
  go_wp2_with (first
    | (go_at_call 33; ((with_reducible refine (HC.out _ (HR.out.below (below_first _))).mono ?_); rintro e w1 ⟨v, rfl, hO, hB⟩; have HF1 := Lib.hid (blk_below (heap_alloc_new w (.cells #[.int .i64 0, .int .i64 0] 26)) hB); have HO1 := Lib.hid (ORow.lower (base' := w.heap.size) hO (below_first _).size); have HB1 := Lib.hid (below_then (below_first _) (below_first _).size hB); have c0 : w1.cell? ⟨w.heap.size, 0, none⟩ = some (.int .i64 0) := (blk_cell HF1.out 0).trans rfl; have c1 : w1.cell? ⟨w.heap.size, 1, none⟩ = some (.int .i64 0) := (blk_cell HF1.out 1).trans rfl; have z0 := blk_frozen HF1.out 0; have z1 := blk_frozen HF1.out 1; clear hO hB)))
  have HF2 := blk_set (blk_set HF1.out 0 (.int .i64 r.2.1)) 1 (.int .i64 r.2.2)
  refine bodyPost_ret (results_tc rfl _ _ _ _ _ _ _ rfl HF2 Try.underlying26 rfl (by kernel_rfl)) rfl ?_
  exact ⟨_, rfl, (HO1.out.set_ HF1.out (by decide) 0 _).set_ (blk_set HF1.out 0 _) (by decide) 1 _, below_set (below_set HB1.out (Nat.le_refl _)) (Nat.le_refl _)⟩
set_option maxRecDepth 100000 in
set_option maxHeartbeats 1000000 in
theorem points_be (A : Option Addr) (l : List Int) (c : Nat) (w : World) (hr : ReadsInt w .u8 A l.length l) (hby : Bytes l) (hc : l.length ≤ c) (hl : l.length ≤ 35184372088832) :
    Calls Try.prog 20 #[.int .i64 7, .slice A l.length c] w (PtsPost w (resV (dbl false l.length l))) := by
  have HC := Lib.hid (fun W h => double_any false A l c W h hby hc hl)
  have HR := Lib.hid hr
  generalize resV (dbl false l.length l) = r at *
  clear hr hby
  go_enter Try.func20, Try.ntmps20
  go_wp2_with (first
    | (go_at_call 34; ((with_reducible refine (HC.out _ (HR.out.below (below_first _))).mono ?_); rintro e w1 ⟨v, rfl, hO, hB⟩; have HF1 := Lib.hid (blk_below (heap_alloc_new w (.cells #[.int .i64 0, .int .i64 0] 26)) hB); have HO1 := Lib.hid (ORow.lower (base' := w.heap.size) hO (below_first _).size); have HB1 := Lib.hid (below_then (below_first _) (below_first _).size hB); have c0 : w1.cell? ⟨w.heap.size, 0, none⟩ = some (.int .i64 0) := (blk_cell HF1.out 0).trans rfl; have c1 : w1.cell? ⟨w.heap.size, 1, none⟩ = some (.int .i64 0) := (blk_cell HF1.out 1).trans rfl; have z0 := blk_frozen HF1.out 0; have z1 := blk_frozen HF1.out 1; clear hO hB)))
  have HF2 := blk_set (blk_set HF1.out 0 (.int .i64 r.2.1)) 1 (.int .i64 r.2.2)
  refine bodyPost_ret (results_tc rfl _ _ _ _ _ _ _ rfl HF2 Try.underlying26 rfl (by kernel_rfl)) rfl ?_
  exact ⟨_, rfl, (HO1.out.set_ HF1.out (by decide) 0 _).set_ (blk_set HF1.out 0 _) (by decide) 1 _, below_set (below_set HB1.out (Nat.le_refl _)) (Nat.le_refl _)⟩
set_option maxRecDepth 100000 in
set_option maxHeartbeats 1000000 in
theorem points_le (A : Option Addr) (l : List Int) (c : Nat) (w : World) (hr : ReadsInt w .u8 A l.length l) (hby : Bytes l) (hc : l.length ≤ c) (hl : l.length ≤ 35184372088832) :
    Calls Try.prog 20 #[.int .i64 8, .slice A l.length c] w (PtsPost w (resV (dbl true l.length l))) := by
  have HC := Lib.hid (fun W h => double_any true A l c W h hby hc hl)
  have HR := Lib.hid hr
  generalize resV (dbl true l.length l) = r at *
  clear hr hby
  go_enter Try.func20, Try.ntmps20
  go_wp2_with (first
    | (go_at_call 34; ((with_reducible refine (HC.out _ (HR.out.below (below_first _))).mono ?_); rintro e w1 ⟨v, rfl, hO, hB⟩; have HF1 := Lib.hid (blk_below (heap_alloc_new w (.cells #[.int .i64 0, .int .i64 0] 26)) hB); have HO1 := Lib.hid (ORow.lower (base' := w.heap.size) hO (below_first _).size); have HB1 := Lib.hid (below_then (below_first _) (below_first _).size hB); have c0 : w1.cell? ⟨w.heap.size, 0, none⟩ = some (.int .i64 0) := (blk_cell HF1.out 0).trans rfl; have c1 : w1.cell? ⟨w.heap.size, 1, none⟩ = some (.int .i64 0) := (blk_cell HF1.out 1).trans rfl; have z0 := blk_frozen HF1.out 0; have z1 := blk_frozen HF1.out 1; clear hO hB)))
  have HF2 := blk_set (blk_set HF1.out 0 (.int .i64 r.2.1)) 1 (.int .i64 r.2.2)
  refine bodyPost_ret (results_tc rfl _ _ _ _ _ _ _ rfl HF2 Try.underlying26 rfl (by kernel_rfl)) rfl ?_
  exact ⟨_, rfl, (HO1.out.set_ HF1.out (by decide) 0 _).set_ (blk_set HF1.out 0 _) (by decide) 1 _, below_set (below_set HB1.out (Nat.le_refl _)) (Nat.le_refl _)⟩
set_option maxRecDepth 100000 in
set_option maxHeartbeats 1000000 in
theorem points_one (A : Option Addr) (l : List Int) (c : Nat) (w : World) (hr : ReadsInt w .u8 A l.length l) (hby : Bytes l) (hc : l.length ≤ c) (hl : l.length ≤ 35184372088832) (f : Int) (h2 : f ≠ 2) (h6 : f ≠ 6) (h7 : f ≠ 7) (h8 : f ≠ 8) :
    Calls Try.prog 20 #[.int .i64 f, .slice A l.length c] w (PtsPost w (resV (sgl f l))) := by
  have HC := Lib.hid (fun W h => single_any f A l c W h hby hl)
  have HR := Lib.hid hr
  generalize resV (sgl f l) = r at *
  clear hr hby
  have b2 : (f == 2) = false := beq_eq_false_iff_ne.mpr h2
  have b6 : (f == 6) = false := beq_eq_false_iff_ne.mpr h6
  have b7 : (f == 7) = false := beq_eq_false_iff_ne.mpr h7
  have b8 : (f == 8) = false := beq_eq_false_iff_ne.mpr h8
  clear h2 h6 h7 h8
  go_enter Try.func20, Try.ntmps20
  go_wp2_with (first
    | (go_at_call 35; ((with_reducible refine (HC.out _ (HR.out.below (below_first _))).mono ?_); rintro e w1 ⟨v, rfl, hO, hB⟩; have HF1 := Lib.hid (blk_below (heap_alloc_new w (.cells #[.int .i64 0, .int .i64 0] 26)) hB); have HO1 := Lib.hid (ORow.lower (base' := w.heap.size) hO (below_first _).size); have HB1 := Lib.hid (below_then (below_first _) (below_first _).size hB); have c0 : w1.cell? ⟨w.heap.size, 0, none⟩ = some (.int .i64 0) := (blk_cell HF1.out 0).trans rfl; have c1 : w1.cell? ⟨w.heap.size, 1, none⟩ = some (.int .i64 0) := (blk_cell HF1.out 1).trans rfl; have z0 := blk_frozen HF1.out 0; have z1 := blk_frozen HF1.out 1; clear hO hB)))
  have HF2 := blk_set (blk_set HF1.out 0 (.int .i64 r.2.1)) 1 (.int .i64 r.2.2)
  refine bodyPost_ret (results_tc rfl _ _ _ _ _ _ _ rfl HF2 Try.underlying26 rfl (by kernel_rfl)) rfl ?_
  exact ⟨_, rfl, (HO1.out.set_ HF1.out (by decide) 0 _).set_ (blk_set HF1.out 0 _) (by decide) 1 _, below_set (below_set HB1.out (Nat.le_refl _)) (Nat.le_refl _)⟩
theorem cpoints_any (f : Int) (A : Option Addr) (l : List Int) (c : Nat) (w : World) (hr : ReadsInt w .u8 A l.length l) (hby : Bytes l) (hc : l.length ≤ c) (hl : l.length ≤ 35184372088832) :
    Calls Try.prog 20 #[.int .i64 f, .slice A l.length c] w (PtsPost w (pointsV f l)) := by
  unfold pointsV
  by_cases h2 : f = 2
  · rw [if_pos h2, h2]; exact points_utf A l c w hr hby hc hl
  · rw [if_neg h2]
    by_cases h6 : f = 6
    · rw [if_pos h6, h6]; exact points_mark A l c w hr hby hc hl
    · rw [if_neg h6]
      by_cases h7 : f = 7
      · rw [if_pos h7, h7]; exact points_be A l c w hr hby hc hl
      · rw [if_neg h7]
        by_cases h8 : f = 8
        · rw [if_pos h8, h8]; exact points_le A l c w hr hby hc hl
        · rw [if_neg h8]; exact points_one A l c w hr hby hc hl f h2 h6 h7 h8
def decodeV (s : ByteArray) (l : List Int) : List Int × Int × Int :=
  if formV s = 0 then ([], 0, 143) else if (pointsV (formV s) l).2.2 = 0 then txtV (pointsV (formV s) l).1 else ([], (pointsV (formV s) l).2.1, (pointsV (formV s) l).2.2)
end Go.Proofs.Ytpbgpbblbohmgaa
namespace Go.Proofs.Ytpbgpbblbohmgaa
open Go.RowKit Go.Proofs.YtpbgpbblbohmgaaW.PrintWords

theorem dec_len : ∀ (f : Nat) (l : List Int), (dec f l).1.length ≤ l.length
  | 0, l => by simp [dec]
  | f + 1, l => by
    rw [dec]
    have ih := dec_len f (l.drop (nextV l).2.1)
    have hn := nextV_len l
    split
    · simp
    · split
      · rename_i h1 h2
        have := hn.2.1 h2
        simp only [List.length_cons]
        rw [List.length_drop] at ih
        omega
      · simp
theorem sgl_len (f : Int) : ∀ l : List Int, (sgl f l).1.length ≤ l.length
  | [] => by simp [sgl]
  | c :: t => by
    rw [sgl]
    have ih := sgl_len f t
    split
    · simp
    · simp only [List.length_cons]; omega
theorem dbl_len (b : Bool) : ∀ (f : Nat) (l : List Int), (dbl b f l).1.length ≤ l.length
  | 0, l => by simp [dbl]
  | f + 1, l => by
    have ih2 := dbl_len b f (l.drop 2)
    have ih4 := dbl_len b f (l.drop 4)
    rw [List.length_drop] at ih2 ih4
    rw [dbl_step]
    repeat' split
    all_goals (simp [joinD]; try omega)
theorem resV_len {d : List Int × Option Nat} {n : Nat} (h : d.1.length ≤ n) : (resV d).1.length ≤ n := by
  rcases d with ⟨xs, _ | m⟩
  · exact h
  · simp [resV]
theorem markV_len (l : List Int) : (markV l).1.length ≤ l.length := by
  have h1 := dbl_len false (l.drop 2).length (l.drop 2)
  have h2 := dbl_len true (l.drop 2).length (l.drop 2)
  have h3 := dbl_len false l.length l
  have h4 : (l.drop 2).length ≤ l.length := by rw [List.length_drop]; omega
  unfold markV
  repeat' split
  · simp [joinD] at h1 ⊢; omega
  · simp [joinD] at h2 ⊢; omega
  · exact h3
theorem ptsV_res (l : List Int) : ptsV l = resV (dec l.length l) := rfl
theorem pointsV_len (f : Int) (l : List Int) : (pointsV f l).1.length ≤ l.length := by
  unfold pointsV
  repeat' split
  · exact resV_len (dec_len _ _)
  · exact resV_len (markV_len _)
  · exact resV_len (dbl_len _ _ _)
  · exact resV_len (dbl_len _ _ _)
  · exact resV_len (sgl_len _ _)
set_option maxRecDepth 100000 in
set_option maxHeartbeats 1000000 in
theorem decode_no (s : ByteArray) (A : Option Addr) (l : List Int) (c : Nat) (w : World) (hs : s.size ≤ 9223372036854775807) (hl : l.length ≤ 1048576) (hf : formV s = 0) :
    Calls Try.prog 10 #[.string s, .slice A l.length c] w (TxtPost w (decodeV s l)) := by
  have HD : Hid (decodeV s l = ([], 0, 143)) := Lib.hid (by rw [decodeV, if_pos hf])
  have HC := Lib.hid (fun W => fits_any s A l.length c W hs hl)
  have HE : Hid (fitsE s = 143) := Lib.hid (by rw [fitsE, if_pos hf])
  unfold FitsPost at HC
  rw [HE.out, hf] at HC
  clear hf
  go_enter Try.func10, Try.ntmps10
  go_wp2_with (first
    | (go_at_call 19; ((with_reducible refine (HC.out _).mono ?_); rintro e w1 ⟨rfl, hB⟩; have HF1 := Lib.hid (blk_below (heap_alloc_new w (.cells #[.int .i64 0, .int .i64 0] 26)) hB); have HB1 := Lib.hid (below_then (below_first _) (below_first _).size hB); have c0 : w1.cell? ⟨w.heap.size, 0, none⟩ = some (.int .i64 0) := (blk_cell HF1.out 0).trans rfl; have c1 : w1.cell? ⟨w.heap.size, 1, none⟩ = some (.int .i64 0) := (blk_cell HF1.out 1).trans rfl; have z0 := blk_frozen HF1.out 0; have z1 := blk_frozen HF1.out 1; have hszz : w.heap.size < w1.heap.size := blk_lt HF1.out; clear hB)))
  go_region
  go_wp2
  have HF2 := blk_below (blk_set (blk_set HF1.out 0 (.int .i64 0)) 1 (.int .i64 143)) (below_first (.cells #[.int .i64 0, .int .i64 143] 26))
  refine bodyPost_ret (results_tc rfl _ _ _ _ _ _ _ rfl HF2 Try.underlying26 rfl (by kernel_rfl)) rfl ?_
  rw [HD.out]
  exact ⟨_, rfl, ORow.nil _ _ _ _, b_drew (below_alloc (below_set (below_set HB1.out (Nat.le_refl _)) (Nat.le_refl _)) _)⟩
set_option maxRecDepth 100000 in
set_option maxHeartbeats 1000000 in
theorem decode_yes (s : ByteArray) (A : Option Addr) (l : List Int) (c : Nat) (w : World) (hr : ReadsInt w .u8 A l.length l) (hby : Bytes l) (hc : l.length ≤ c) (hs : s.size ≤ 9223372036854775807) (hl : l.length ≤ 1048576) (hf : formV s ≠ 0) :
    Calls Try.prog 10 #[.string s, .slice A l.length c] w (TxtPost w (decodeV s l)) := by
  have HC := Lib.hid (fun W => fits_any s A l.length c W hs hl)
  have HE : Hid (fitsE s = 0) := Lib.hid (by rw [fitsE, if_neg hf])
  have HP := Lib.hid (fun W h => cpoints_any (formV s) A l c W h hby hc (by omega))
  have HL := Lib.hid (pointsV_len (formV s) l)
  have HD : Hid (decodeV s l = if (pointsV (formV s) l).2.2 = 0 then txtV (pointsV (formV s) l).1 else ([], (pointsV (formV s) l).2.1, (pointsV (formV s) l).2.2)) := Lib.hid (by rw [decodeV, if_neg hf])
  have HR := Lib.hid hr
  unfold FitsPost at HC
  rw [HE.out] at HC
  generalize formV s = f at *
  generalize pointsV f l = r at *
  obtain ⟨ps, at_, cd⟩ := r
  have HLL := Lib.hid hl
  clear hf hr hby hl
  by_cases hcd : cd = 0
  · have HCD := Lib.hid hcd
    simp only [hcd, if_true] at HD HP HL
    clear hcd
    have HT := Lib.hid (fun W A2 c2 h => text_any A2 ps c2 W h (by have := HL.out; have := HLL.out; omega))
    go_enter Try.func10, Try.ntmps10
    go_wp2_with (first
      | (go_at_call 19; ((with_reducible refine (HC.out _).mono ?_); rintro e w1 ⟨rfl, hB⟩; have HF1 := Lib.hid (blk_below (heap_alloc_new w (.cells #[.int .i64 0, .int .i64 0] 26)) hB); have HB1 := Lib.hid (below_then (below_first _) (below_first _).size hB); have hszz : w.heap.size < w1.heap.size := blk_lt HF1.out; clear hB))
      | (go_at_call 20; ((with_reducible refine (HP.out _ (HR.out.below (below_alloc HB1.out _))).mono ?_); rintro e w2 ⟨v, rfl, hO, hB⟩; have HG2 := Lib.hid (blk_below (heap_alloc_new w1 (.cells #[.int .i64 0, .int .i64 0] 26)) hB); have HF2 := Lib.hid (blk_below (blk_below HF1.out (below_first (.cells #[.int .i64 0, .int .i64 0] 26))) hB); have HO2 := Lib.hid (ORow.lower (base' := w.heap.size) hO (below_alloc HB1.out _).size); have HB2 := Lib.hid (below_then (below_alloc HB1.out _) (below_alloc HB1.out _).size hB); have c0 : w2.cell? ⟨w1.heap.size, 0, none⟩ = some (.int .i64 0) := (blk_cell HG2.out 0).trans rfl; have c1 : w2.cell? ⟨w1.heap.size, 1, none⟩ = some (.int .i64 0) := (blk_cell HG2.out 1).trans rfl; have z0 := blk_frozen HG2.out 0; have z1 := blk_frozen HG2.out 1; obtain ⟨A2, c2, rfl, hc2, hR2⟩ := (HO2.out.set_ HG2.out (by decide) 0 (.int .i64 at_)).set_ (blk_set HG2.out 0 _) (by decide) 1 (.int .i64 0) |>.reads; have HR2 := Lib.hid hR2; clear hO hB hR2))
      | (go_at_call 21; ((with_reducible refine (HT.out _ _ _ HR2.out).mono ?_); rintro e w3 ⟨v3, rfl, hO3, hB3⟩; have HF3 := Lib.hid (blk_below (blk_far (blk_far HF2.out (p := ⟨w1.heap.size, 0, none⟩) (Nat.ne_of_lt hszz) (.int .i64 at_)) (p := ⟨w1.heap.size, 1, none⟩) (Nat.ne_of_lt hszz) (.int .i64 0)) hB3); have hszb : w.heap.size ≤ ((w2.setCell ⟨w1.heap.size, 0, none⟩ (.int .i64 at_)).setCell ⟨w1.heap.size, 1, none⟩ (.int .i64 0)).heap.size := Nat.le_trans HB2.out.size (by simp); have HO3 := Lib.hid (ORow.lower (base' := w.heap.size) hO3 hszb); have HB3 := Lib.hid (below_then (below_set (below_set HB2.out (Nat.le_of_lt hszz)) (Nat.le_of_lt hszz)) hszb hB3); have c0 : w3.cell? ⟨w.heap.size, 0, none⟩ = some (.int .i64 0) := (blk_cell HF3.out 0).trans rfl; have c1 : w3.cell? ⟨w.heap.size, 1, none⟩ = some (.int .i64 0) := (blk_cell HF3.out 1).trans rfl; have z0 := blk_frozen HF3.out 0; have z1 := blk_frozen HF3.out 1; clear hO3 hB3 hszb)))
    generalize txtV ps = r at *
    have HF4 := blk_set (blk_set HF3.out 0 (.int .i64 r.2.1)) 1 (.int .i64 r.2.2)
    refine bodyPost_ret (results_tc rfl _ _ _ _ _ _ _ rfl HF4 Try.underlying26 rfl (by kernel_rfl)) rfl ?_
    rw [HD.out]
    exact ⟨_, rfl, (HO3.out.set_ HF3.out (by decide) 0 _).set_ (blk_set HF3.out 0 _) (by decide) 1 _, below_set (below_set HB3.out (Nat.le_refl _)) (Nat.le_refl _)⟩
  · have b0 : (cd != 0) = true := bne_iff_ne.mpr hcd
    have b1 : (cd == 0) = false := beq_eq_false_iff_ne.mpr hcd
    have HD2 : Hid (decodeV s l = ([], at_, cd)) := Lib.hid (by rw [HD.out, if_neg hcd])
    clear HD hcd
    go_enter Try.func10, Try.ntmps10
    go_wp2_with (first
      | (go_at_call 19; ((with_reducible refine (HC.out _).mono ?_); rintro e w1 ⟨rfl, hB⟩; have HF1 := Lib.hid (blk_below (heap_alloc_new w (.cells #[.int .i64 0, .int .i64 0] 26)) hB); have HB1 := Lib.hid (below_then (below_first _) (below_first _).size hB); have hszz : w.heap.size < w1.heap.size := blk_lt HF1.out; clear hB))
      | (go_at_call 20; ((with_reducible refine (HP.out _ (HR.out.below (below_alloc HB1.out _))).mono ?_); rintro e w2 ⟨v, rfl, hO, hB⟩; have HG2 := Lib.hid (blk_below (heap_alloc_new w1 (.cells #[.int .i64 0, .int .i64 0] 26)) hB); have HF2 := Lib.hid (blk_below (blk_below HF1.out (below_first (.cells #[.int .i64 0, .int .i64 0] 26))) hB); have HB2 := Lib.hid (below_then (below_alloc HB1.out _) (below_alloc HB1.out _).size hB); have c0 : w2.cell? ⟨w1.heap.size, 0, none⟩ = some (.int .i64 0) := (blk_cell HG2.out 0).trans rfl; have c1 : w2.cell? ⟨w1.heap.size, 1, none⟩ = some (.int .i64 0) := (blk_cell HG2.out 1).trans rfl; have z0 := blk_frozen HG2.out 0; have z1 := blk_frozen HG2.out 1; clear hO hB)))
    have HG5 := Lib.hid (blk_set (blk_set HG2.out 0 (.int .i64 at_)) 1 (.int .i64 cd))
    have HF5 := Lib.hid (blk_far (blk_far HF2.out (p := ⟨w1.heap.size, 0, none⟩) (Nat.ne_of_lt hszz) (.int .i64 at_)) (p := ⟨w1.heap.size, 1, none⟩) (Nat.ne_of_lt hszz) (.int .i64 cd))
    have HB5 := Lib.hid (below_set (below_set HB2.out (Nat.le_of_lt hszz) (j := 0) (v := .int .i64 at_)) (Nat.le_of_lt hszz) (j := 1) (v := .int .i64 cd))
    clear c0 c1 z0 z1
    generalize (w2.setCell ⟨w1.heap.size, 0, none⟩ (.int .i64 at_)).setCell ⟨w1.heap.size, 1, none⟩ (.int .i64 cd) = w5 at *
    have c0 : w5.cell? ⟨w1.heap.size, 0, none⟩ = some (.int .i64 at_) := (blk_cell HG5.out 0).trans rfl
    have c1 : w5.cell? ⟨w1.heap.size, 1, none⟩ = some (.int .i64 cd) := (blk_cell HG5.out 1).trans rfl
    have d0 : w5.cell? ⟨w.heap.size, 0, none⟩ = some (.int .i64 0) := (blk_cell HF5.out 0).trans rfl
    have d1 : w5.cell? ⟨w.heap.size, 1, none⟩ = some (.int .i64 0) := (blk_cell HF5.out 1).trans rfl
    have z0 := blk_frozen HF5.out 0
    have z1 := blk_frozen HF5.out 1
    clear hszz
    go_region
    go_wp2
    have HF6 := blk_set (blk_set HF5.out 0 (.int .i64 at_)) 1 (.int .i64 cd)
    refine bodyPost_ret (results_tc rfl _ _ _ _ _ _ _ rfl HF6 Try.underlying26 rfl (by kernel_rfl)) rfl ?_
    rw [HD2.out]
    exact ⟨_, rfl, ORow.nil _ _ _ _, b_drew (below_set (below_set HB5.out (Nat.le_refl _)) (Nat.le_refl _))⟩
theorem decode_any (s : ByteArray) (A : Option Addr) (l : List Int) (c : Nat) (w : World) (hr : ReadsInt w .u8 A l.length l) (hby : Bytes l) (hc : l.length ≤ c) (hs : s.size ≤ 9223372036854775807) (hl : l.length ≤ 1048576) :
    Calls Try.prog 10 #[.string s, .slice A l.length c] w (TxtPost w (decodeV s l)) := by
  by_cases hf : formV s = 0
  · exact decode_no s A l c w hs hl hf
  · exact decode_yes s A l c w hr hby hc hs hl hf
end Go.Proofs.Ytpbgpbblbohmgaa
