/- kind: texts as lists of bytes; prefixes; tokens. -/
import Derived.Test.YtdnehnjcbdkgcaaLowKind
import Derived.Test.YtdnehnjcbdkgcaaBld
import Derived.Deep.QuietTactic
import Derived.BigQuiet
import Derived.Shelf.Small.Strs
import Derived.Shelf.Strings.Search1
import Derived.Lib.IndexBytes
namespace Go.Proofs.Ytdnehnjcbdkgcaa
open Go.RowKit Go.Shelf Go.Proofs.YtdnehnjcbdkgcaaW.PrintWords

/-- A text. -/
def St (l : List Int) : ByteArray := strOfNums l
theorem bytesOf_bytes' (s : ByteArray) : Bytes (bytesOf s) := bytesOf_bytes s
theorem St_size (l : List Int) : (St l).size = l.length := by simp [St, strOfNums, ByteArray.size]
theorem bytesOf_St {l : List Int} (h : Bytes l) : bytesOf (St l) = l := by
  simp only [bytesOf, St, strOfNums, List.map_map]
  conv => rhs; rw [← List.map_id l]
  refine List.map_congr_left fun x hx => ?_
  have := h x hx
  simp only [Function.comp_apply, UInt8.toNat_ofNat', id]
  omega
theorem ba_ext {a b : ByteArray} (h : a.data.toList = b.data.toList) : a = b := by
  cases a; cases b
  simp only at h
  congr
  exact Array.toList_inj.1 h
theorem St_bytesOf (s : ByteArray) : St (bytesOf s) = s := by
  apply ba_ext
  simp only [St, strOfNums, bytesOf, List.map_map]
  conv => rhs; rw [← List.map_id s.data.toList]
  refine List.map_congr_left fun x _ => ?_
  simp
theorem st_of (s : ByteArray) : ∃ l, Bytes l ∧ s = St l := ⟨bytesOf s, bytesOf_bytes s, (St_bytesOf s).symm⟩
theorem St_extract (l : List Int) (a b : Nat) : (St l).extract a b = St ((l.take b).drop a) := by
  apply ba_ext
  rw [ByteArray.data_extract]
  simp [St, strOfNums, List.map_take, List.map_drop, Array.toList_extract, List.extract_eq_take_drop, List.drop_take]
theorem St_at {l : List Int} (h : Bytes l) (i : Nat) (hi : i < (St l).size) : (((St l)[i]'hi).toNat : Int) = rd l (i : Int) := by
  have h2 := bt_at (St l) (i : Int) (by simpa using hi)
  rw [← rd_bytesOf, bytesOf_St h] at h2
  simpa using h2
theorem St_append (a b : List Int) : St a ++ St b = St (a ++ b) := by
  apply ba_ext
  simp [St, strOfNums]
theorem St_inj {a b : List Int} (ha : Bytes a) (hb : Bytes b) (h : St a = St b) : a = b := by
  have := congrArg bytesOf h
  rwa [bytesOf_St ha, bytesOf_St hb] at this
theorem St_beq {a b : List Int} (ha : Bytes a) (hb : Bytes b) : ((St a).toList == (St b).toList) = decide (a = b) := sn_beq ha hb
theorem take_succ_rd (q : List Int) (k : Nat) (h : k < q.length) : q.take (k + 1) = q.take k ++ [rd q (k : Int)] := by
  rw [List.take_succ_eq_append_getElem h, rd_lt q k h]
def othB (c : Int) : Bool := [40, 41, 60, 62, 64, 44, 59, 58, 92, 34, 47, 91, 93, 63, 61].contains c
def sgnB (c : Int) : Bool := decide (33 ≤ c) && decide (c ≤ 126) && !othB c
def tokenB (l : List Int) : Bool := l.all sgnB && !l.isEmpty && decide (l.length ≤ 64)
def others : ByteArray := ⟨#[40, 41, 60, 62, 64, 44, 59, 58, 92, 34, 47, 91, 93, 63, 61]⟩
def lays137_ren : Go.Shelf.Ren := ⟨fun | 137 => 39 | 217 => 45 | 266 => 49 | n => n, fun | 9 => 9 | 5 => 5 | 3 => 3 | n => n, fun | n => n⟩
theorem lays137 : Go.Proofs.Lays.n137 Try.prog lays137_ren := {
  mixed := by kernel_rfl
  f137 := Try.func39.trans (congrArg some (by kernel_rfl))
  f217 := Try.func45.trans (congrArg some (by kernel_rfl))
  f266 := Try.func49.trans (congrArg some (by kernel_rfl))
  t3 := Try.underlying3
  a3 := Try.isAgg3
  z3 := Try.sizeOf3
  v3 := Try.zeroValue3
  t5 := Try.underlying5
  a5 := Try.isAgg5
  z5 := Try.sizeOf5
  v5 := Try.zeroValue5
  t9 := Try.underlying9
  a9 := Try.isAgg9
  z9 := Try.sizeOf9
  v9 := Try.zeroValue9 }
def othV (c : Int) : Int := Lib.indexByte others.data.toList c.toNat.toUInt8
theorem index_others (c : Int) (w : World) : Calls Try.prog 39 #[.string others, .int .u8 c] w fun e w' => e = .returned (.int .i64 (othV c)) ∧ w' = w := Any.strings_IndexByte lays137 others c w
theorem oth_all : ∀ c : Fin 256, decide (0 ≤ othV (c.val : Int)) = othB (c.val : Int) := by decide +kernel
theorem oth_eq {c : Int} (h0 : 0 ≤ c) (h1 : c ≤ 255) : decide (0 ≤ othV c) = othB c := by
  have h := oth_all ⟨c.toNat, by omega⟩
  rwa [show ((c.toNat : Nat) : Int) = c by omega] at h
/-- Why a sign may stand in a token, or not, as the program asks. -/
theorem sgn_ways (c : Int) (h0 : 0 ≤ c) (h1 : c ≤ 255) : (sgnB c = false ∧ c < 33) ∨ (sgnB c = false ∧ 33 ≤ c ∧ 126 < c) ∨ (sgnB c = false ∧ 33 ≤ c ∧ c ≤ 126 ∧ 0 ≤ othV c) ∨ (sgnB c = true ∧ 33 ≤ c ∧ c ≤ 126 ∧ othV c < 0) := by
  have ho := oth_eq h0 h1
  unfold sgnB
  by_cases c1 : c < 33
  · exact .inl ⟨by rw [decide_eq_false (by omega)]; rfl, c1⟩
  · by_cases c2 : 126 < c
    · exact .inr (.inl ⟨by rw [decide_eq_false (show ¬ c ≤ 126 by omega)]; simp, by omega, c2⟩)
    · rw [decide_eq_true (show 33 ≤ c by omega), decide_eq_true (show c ≤ 126 by omega)]
      by_cases c3 : 0 ≤ othV c
      · rw [decide_eq_true c3] at ho
        exact .inr (.inr (.inl ⟨by rw [← ho]; rfl, by omega, by omega, c3⟩))
      · rw [decide_eq_false c3] at ho
        exact .inr (.inr (.inr ⟨by rw [← ho]; rfl, by omega, by omega, by omega⟩))
set_option maxRecDepth 100000 in
set_option maxHeartbeats 1000000 in
theorem isToken_any (l : List Int) (w : World) (hby : Bytes l) (hl : l.length ≤ 9223372036854775807) :
    Calls Try.prog 33 #[.string (St l)] w fun e w' => e = .returned (.bool (tokenB l)) ∧ w = w' := by
  have HBY := Lib.hid hby
  have HAT := Lib.hid (fun i hi => St_at hby i hi)
  have hsz := St_size l
  have HT : Hid (tokenB l = (l.all sgnB && !l.isEmpty && decide (l.length ≤ 64))) := Lib.hid rfl
  have HE : Hid ((St l).toList = [] ↔ l = []) := Lib.hid ⟨fun h => by have := congrArg List.length h; rw [show (St l).toList = U8 l from sn_toList l] at this; simpa [U8] using this, fun h => by subst h; exact sn_toList []⟩
  generalize tokenB l = T at *
  generalize St l = s at *
  have HSZ := Lib.hid hsz
  have hls : s.size ≤ 9223372036854775807 := by omega
  clear hby hsz
  go_enter Try.func33, Try.ntmps33
  go_wp2
  go_loop [6] (fun s6 => ∃ k : Nat, k ≤ s.size ∧ s6 = .int .i64 k ∧ Hid ((l.take k).all sgnB = true)) (fun s6 => s.size - (intOf s6).toNat)
  case atStart => exact ⟨0, Nat.zero_le _, rfl, Lib.hid rfl⟩
  case round =>
    obtain ⟨k, hk, rfl, HA⟩ := hrel
    by_cases hlt : k < s.size
    · have hkl : k < l.length := by have := HSZ.out; omega
      have HTK := Lib.hid (take_succ_rd l k hkl)
      have he := HAT.out k hlt
      have hr := HBY.out.rd k
      have HIN : Hid (rd l (k : Int) ∈ l) := Lib.hid (by rw [rd_lt l k hkl]; exact List.getElem_mem hkl)
      generalize rd l (k : Int) = c at *
      have HI := Lib.hid (index_others c)
      have hF : sgnB c = false → T = false := fun h => by
        rw [HT.out]
        have h2 : l.all sgnB = false := List.all_eq_false.2 ⟨c, HIN.out, by rw [h]; decide⟩
        rw [h2]; rfl
      rcases sgn_ways c hr.1 hr.2 with ⟨h1, h2⟩ | ⟨h1, h2, h3⟩ | ⟨h1, h2, h3, h4⟩ | ⟨h1, h2, h3, h4⟩
      · have HTF := Lib.hid (hF h1)
        clear hF h1
        go_wp2
        go_ret
        exact ⟨by rw [HTF.out]; rfl, rfl⟩
      · have HTF := Lib.hid (hF h1)
        clear hF h1
        go_wp2
        go_ret
        exact ⟨by rw [HTF.out]; rfl, rfl⟩
      · have HTF := Lib.hid (hF h1)
        clear hF h1
        go_wp2_with (first | (go_at_call 39; ((refine (HI.out _).mono ?_); rintro e w' ⟨rfl, rfl⟩)))
        go_ret
        exact ⟨by rw [HTF.out]; rfl, rfl⟩
      · have HS := Lib.hid h1
        clear hF h1
        go_wp2_with (first | (go_at_call 39; ((refine (HI.out _).mono ?_); rintro e w' ⟨rfl, rfl⟩)))
        go_round
        case rel => exact ⟨k + 1, by omega, by go_num, Lib.hid (by rw [HTK.out, List.all_append, HA.out]; simp [HS.out])⟩
        case measure => simp [intOf]; omega
    · have HA2 : Hid (T = (!l.isEmpty && decide (l.length ≤ 64))) := Lib.hid (by
        have h := HA.out
        rw [show k = l.length by have := HSZ.out; omega, List.take_length] at h
        rw [HT.out, h]; rfl)
      clear HA
      by_cases hnil : l = []
      · have hse : s.toList = [] := HE.out.2 hnil
        have hT : T = false := by rw [HA2.out, hnil]; rfl
        have HTF := Lib.hid hT
        clear hnil hT
        go_wp2
        go_ret
        exact ⟨by rw [HTF.out]; rfl, rfl⟩
      · have hse : s.toList.isEmpty = false := by
          cases h : s.toList with
          | nil => exact absurd (HE.out.1 h) hnil
          | cons a t => rfl
        have hse2 : (s.toList == []) = false := by
          cases h : s.toList with
          | nil => exact absurd (HE.out.1 h) hnil
          | cons a t => rfl
        have hT : T = decide ((s.size : Int) ≤ 64) := by
          rw [HA2.out, show l.isEmpty = false by cases l with | nil => exact absurd rfl hnil | cons a t => rfl, HSZ.out]
          by_cases h : l.length ≤ 64
          · rw [decide_eq_true h, decide_eq_true (by omega)]; rfl
          · rw [decide_eq_false h, decide_eq_false (by omega)]; rfl
        have HTF := Lib.hid hT
        clear hnil hT
        go_wp2
        go_ret
        exact ⟨by rw [HTF.out]; rfl, rfl⟩
def smallB (l : List Int) : Bool := tokenB l && decide (lowL l = l)
set_option maxHeartbeats 1000000 in
theorem small_any (l : List Int) (w : World) (hby : Bytes l) (hl : l.length ≤ 9223372036854775807) :
    Calls Try.prog 37 #[.string (St l)] w fun e w' => e = .returned (.bool (smallB l)) ∧ Below w.heap.size w w' := by
  have HT := Lib.hid (isToken_any l w hby hl)
  have HL := Lib.hid (kind_lower_any (St l) w (by rw [St_size]; exact hl))
  have HV : Hid (smallB l = (tokenB l && decide (lowL l = l))) := Lib.hid rfl
  have hq : ((lowS (St l)).toList == (St l).toList) = decide (lowL l = l) := by
    unfold lowS
    rw [bytesOf_St hby]
    exact St_beq (lowL_bytes hby) hby
  generalize smallB l = V at *
  rcases ht : tokenB l with _ | _
  · rw [ht] at HT HV
    simp only [Bool.false_and] at HV
    clear ht hq
    go_enter Try.func37, Try.ntmps37
    go_wp2_with (first | (go_at_call 33; ((with_reducible refine HT.out.mono ?_); rintro e w' ⟨rfl, rfl⟩)))
    go_ret
    exact ⟨by rw [HV.out]; rfl, Below.refl _ _⟩
  · rw [ht] at HT HV
    simp only [Bool.true_and] at HV
    rw [← HV.out] at hq
    clear ht
    generalize lowS (St l) = q at *
    go_enter Try.func37, Try.ntmps37
    go_wp2_with (first
      | (go_at_call 33; ((with_reducible refine HT.out.mono ?_); rintro e w' ⟨rfl, rfl⟩))
      | (go_at_call 25; ((with_reducible refine HL.out.mono ?_); rintro e w1 ⟨rfl, hB⟩; have HB := Lib.hid hB; clear hB)))
    go_ret
    exact ⟨rfl, HB.out⟩
end Go.Proofs.Ytdnehnjcbdkgcaa
