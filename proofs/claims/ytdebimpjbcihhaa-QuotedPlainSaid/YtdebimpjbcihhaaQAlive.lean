/- What the statements of quoted ask at fixed calls: all of it comes. The functions as contracts. -/
import Derived.Test.YtdebimpjbcihhaaQRef4
import Derived.Lib.SlBytesConst
namespace Go.Proofs.Ytdebimpjbcihhaa
open Go.RowKit Go.Proofs.YtdebimpjbcihhaaW.PrintWords

set_option maxRecDepth 100000 in
set_option maxHeartbeats 1000000 in
theorem encode_no (A : Option Addr) (n c0 : Nat) (t : Bool) (w : World) (hn : n ≤ 9223372036854775807) (h : 1048576 < n) :
    Calls Try.prog 10 #[.slice A n c0, .bool t] w fun e w' => e = .returned (.tuple #[.string ⟨#[]⟩, .int .i64 2]) ∧ Below w.heap.size w w' := by
  go_enter Try.func10, Try.ntmps10
  go_wp2
  go_ret2
  exact ⟨rfl, Below.refl _ _⟩
set_option maxRecDepth 100000 in
set_option maxHeartbeats 1000000 in
theorem rencode_no (A : Option Addr) (n c0 : Nat) (t : Bool) (w : World) (hn : n ≤ 9223372036854775807) (h : 1048576 < n) :
    Calls Try.prog 11 #[.slice A n c0, .bool t] w fun e w' => e = .returned (.tuple #[.string ⟨#[]⟩, .int .i64 2]) ∧ Below w.heap.size w w' := by
  go_enter Try.func11, Try.ntmps11
  go_wp2
  go_ret2
  exact ⟨rfl, Below.refl _ _⟩
/-- What Encode tells, whatever the length. -/
def encK (t : Bool) (l : List Int) : ByteArray × Int := if 1048576 < l.length then (⟨#[]⟩, 2) else (strOfNums (encQ t l l.length 0 0), 0)
theorem encode_any (A : Option Addr) (l : List Int) (c : Nat) (t : Bool) (w : World) (hr : ReadsInt w .u8 A l.length l) (hby : Bytes l) :
    Calls Try.prog 10 #[.slice A l.length c, .bool t] w fun e w' => e = .returned (.tuple #[.string (encK t l).1, .int .i64 (encK t l).2]) ∧ Below w.heap.size w w' := by
  unfold encK
  by_cases h : 1048576 < l.length
  · simp only [if_pos h]; exact encode_no A l.length c t w hr.2.1 h
  · simp only [if_neg h]; exact encode_ok A l c t w hr hby (by omega)
theorem rencode_any (A : Option Addr) (l : List Int) (c : Nat) (t : Bool) (w : World) (hr : ReadsInt w .u8 A l.length l) (hby : Bytes l) (hc : l.length ≤ c) :
    Calls Try.prog 11 #[.slice A l.length c, .bool t] w fun e w' => e = .returned (.tuple #[.string (encK t l).1, .int .i64 (encK t l).2]) ∧ Below w.heap.size w w' := by
  unfold encK
  by_cases h : 1048576 < l.length
  · simp only [if_pos h]; exact rencode_no A l.length c t w hr.2.1 h
  · simp only [if_neg h]; exact rencode_ok A l c t w hr hby hc (by omega)
theorem decode_at (s : ByteArray) (r : List Int × Int × Int) (w : World) (hs : s.size ≤ 4194304) (hv : decK (bytesOf s) = r) : Calls Try.prog 14 #[.string s] w (DecPost w r) := by
  subst hv
  obtain ⟨k, hk⟩ := (qdec_ev s hs).get
  refine (PQuotedEncodes.quoted_Decode.calls k s _ _ _ w hk).mono ?_
  rintro e w1 ⟨v, rfl, hR, hB⟩
  exact ⟨v, rfl, Kd.own_of_R hR, hB⟩
theorem rdecode_at (s : ByteArray) (r : List Int × Int × Int) (w : World) (hs : s.size ≤ 4194304) (hv : decK (bytesOf s) = r) : Calls Try.prog 15 #[.string s] w (DecPost w r) := hv ▸ rdecode_any s w hs
theorem alive_enc : encQ true [32] 1 0 0 = [61, 50, 48] := by decide +kernel
theorem alive_d1 : decK (bytesOf ⟨#[97, 61]⟩) = ([], 1, 3) := by decide +kernel
theorem alive_d2 : decK (bytesOf ⟨#[61, 51, 100]⟩) = ([61], 0, 0) := by decide +kernel
theorem alive_b : bytesOf ⟨#[32]⟩ = [32] := by decide +kernel
theorem alive_s1 : ((strOfNums [61, 50, 48]).toList == [61, 50, 48]) = true := by rw [sn_toList]; decide +kernel
theorem alive_s2 : ((strOfNums [61]).toList == [61]) = true := by rw [sn_toList]; decide +kernel
theorem alive_s3 : ((strOfNums (digB 171)).toList == [65, 66]) = true := by rw [sn_toList]; decide +kernel
theorem bytes_32 : Bytes [32] := by intro x hx; simp at hx; omega
theorem encode_at (A : Option Addr) (l r : List Int) (n c0 : Nat) (t : Bool) (w : World) (hn : n = l.length) (hv : encQ t l l.length 0 0 = r) (hr : ReadsInt w .u8 A n l) (hby : Bytes l) (hl : n ≤ 1048576) :
    Calls Try.prog 10 #[.slice A n c0, .bool t] w fun e w' => e = .returned (.tuple #[.string (strOfNums r), .int .i64 0]) ∧ Below w.heap.size w w' := by
  subst hn; subst hv; exact encode_ok A l c0 t w hr hby hl
theorem digits_any (c : Int) (w : World) (h0 : 0 ≤ c) (h1 : c ≤ 255) : Calls Try.prog 12 #[.int .u8 c] w fun e w' => e = .returned (.string (strOfNums (digB c))) ∧ Drawn0 w w' := PQuotedEncodes.quoted_Digits.calls c _ w (digits_eq c h0 h1)
theorem lit_reads_fr (k : IntKind) (e : TypeId) (W : World) (xs : List Int) (cs : Array Value) (fr : Nat × Nat) (n g : Nat) (hg : g = W.heap.size) (hcs : cs = (nums k xs).toArray) (hn : n = xs.length) (hl : xs.length ≤ 9223372036854775807) :
    ReadsInt (W.alloc (.cells cs e fr)) k (some ⟨g, 0, none⟩) n xs := by
  subst hg; subst hcs; subst hn
  refine ⟨rfl, hl, fun _ => ⟨_, rfl, fun j hj => ?_⟩⟩
  rw [add_at]
  have hh : (W.alloc (.cells (nums k xs).toArray e fr)).heap[W.heap.size]? = some (.cells (nums k xs).toArray e fr) := heap_alloc_new W _
  unfold World.cell?
  simp only [hh]
  simp [nums, List.getD_eq_getElem?_getD, List.getElem?_eq_getElem hj]
set_option maxRecDepth 100000 in
set_option maxHeartbeats 1000000 in
theorem alive_any (w : World) : Calls Try.prog 9 #[] w fun e w' => e = .returned (.bool true) ∧ Below w.heap.size w w' := by
  have s1 := alive_s1
  have s2 := alive_s2
  have s3 := alive_s3
  have kc := fun (w : World) (C : Array Value) (n c : Nat) => Lib.run_convert_bytes_const (P := Try.prog) w 22 5 C n c Try.underlying22 Try.underlying5
  have HB0 := Lib.hid (below_first (w := w) (.cells #[.int .u8 32] 5 (1, 2)))
  have HP := Lib.hid (encode_at (some ⟨w.heap.size, 0, none⟩) [32] _ 1 1 true (w.alloc (.cells #[.int .u8 32] 5 (1, 2))) rfl alive_enc (lit_reads_fr .u8 _ w _ _ _ _ _ rfl rfl rfl (by simp)) bytes_32 (by decide))
  have HD1 := Lib.hid (fun W => decode_at ⟨#[97, 61]⟩ _ W (by decide) alive_d1)
  have HD2 := Lib.hid (fun W => decode_at ⟨#[61, 51, 100]⟩ _ W (by decide) alive_d2)
  have HDG := Lib.hid (fun W => digits_any 171 W (by decide) (by decide))
  go_enter Try.func9, Try.ntmps9
  go_wp2_with (first
    | (go_at_call 10; ((with_reducible refine HP.out.mono ?_); rintro e w1 ⟨rfl, hB1⟩; have HB1 := Lib.hid (below_then HB0.out HB0.out.size hB1); clear hB1))
    | (go_at_call 14; ((with_reducible refine (HD1.out _).mono ?_); rintro e w2 ⟨v2, rfl, hO2, hB2⟩; have HB2 := Lib.hid (below_then HB1.out HB1.out.size hB2); clear hO2 hB2))
    | (go_at_call 14; ((refine (HD2.out _).mono ?_); rintro e w3 ⟨v3, rfl, hO3, hB3⟩; obtain ⟨A3, c3, rfl, hc3, hr3⟩ := hO3.reads; have HB3 := Lib.hid (below_then (below_alloc HB2.out (.cells #[.int .i64 1, .int .i64 3] 30)) (Nat.le_trans HB2.out.size (below_first (w := w2) (.cells #[.int .i64 1, .int .i64 3] 30)).size) hB3); have hbk := blk_below (heap_alloc_new w2 _) hB3; have c0 : w3.cell? ⟨w2.heap.size, 0, none⟩ = some (.int .i64 1) := (blk_cell hbk 0).trans rfl; have c1 : w3.cell? ⟨w2.heap.size, 1, none⟩ = some (.int .i64 3) := (blk_cell hbk 1).trans rfl; have hz : w2.heap.size < w3.heap.size := blk_lt hbk; have cv1 := string_of_reads (P := Try.prog) (A := A3) (c := c3) (n := 1) Try.underlying22 Try.underlying5 Try.underlying9 (hr3.below (below_first (.cells #[.int .i64 0, .int .i64 0] 30))); have HB4 := Lib.hid (below_alloc HB3.out (.cells #[.int .i64 0, .int .i64 0] 30)); clear hO3 hB3 hbk))
    | (go_at_call 12; ((with_reducible refine (HDG.out _).mono ?_); rintro e w4 ⟨rfl, hD4⟩; have HB5 := Lib.hid (below_then HB4.out HB4.out.size hD4.below); clear hD4)))
  go_ret
  exact ⟨rfl, HB5.out⟩
end Go.Proofs.Ytdebimpjbcihhaa
