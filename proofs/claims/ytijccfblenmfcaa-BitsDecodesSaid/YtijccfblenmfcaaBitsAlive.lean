/- What the statements of bits ask at fixed calls: all of it comes. The document's functions as contracts. -/
import Derived.Test.YtijccfblenmfcaaBitsRef2
import Derived.Test.YtijccfblenmfcaaBitsRef5
namespace Go.Proofs.Ytijccfblenmfcaa
open Go.RowKit Go.Shelf Go.Proofs.YtijccfblenmfcaaW.PrintWords

theorem alive_enc : encL 0 2 [255, 0] 0 = [47, 119, 65, 61] := by decide +kernel
theorem alive_d1 : decV (bytesOf ⟨#[47, 119, 66, 61]⟩) = ([], 2, 12) := by decide +kernel
theorem alive_d2 : decV (bytesOf ⟨#[65, 61, 65, 61]⟩) = ([], 1, 11) := by decide +kernel
theorem alive_str : ((strOfNums [47, 119, 65, 61]).toList == [47, 119, 65, 61]) = true := by rw [sn_toList]; decide +kernel
theorem bytes_alive : Bytes [255, 0] := by intro x hx; simp at hx; omega
theorem encode_at (A : Option Addr) (l r : List Int) (n c0 : Nat) (m : Int) (w : World) (hn : n = l.length) (hv : encL m l.length l 0 = r) (hr : ReadsInt w .u8 A n l) (hby : Bytes l) (hc : n ≤ c0) (hf : fitsV l.length m = 0) (hm : 0 ≤ m ∧ m ≤ 76) (hl : n ≤ 1048576) :
    Calls Try.prog 12 #[.slice A n c0, .int .i64 m] w fun e w' => e = .returned (.tuple #[.string (strOfNums r), .int .i64 0]) ∧ Below w.heap.size w w' := by
  subst hn; subst hv; exact encode_ok A l c0 m w hr hby hc hf hm hl
theorem decode_at (s : ByteArray) (r : List Int × Int × Int) (w : World) (hs : s.size ≤ 2097152) (hv : decV (bytesOf s) = r) : Calls Try.prog 10 #[.string s] w (DecPost w r) := hv ▸ decode_any s w hs
theorem ref_decode (s : ByteArray) (r : List Int × Int × Int) (w : World) (hs : s.size ≤ 2097152) (hv : decV (bytesOf s) = r) : Calls Try.prog 11 #[.string s] w (DecPost w r) := by
  subst hv
  obtain ⟨k, hk⟩ := (ref_decode_ev s hs).get
  refine (PBitsDecodes.posthornref01_Decode.calls k s _ _ _ w hk).mono ?_
  rintro e w1 ⟨v, rfl, hR, hB⟩
  exact ⟨v, rfl, Kd.own_of_R hR, hB⟩
theorem ref_encode (A : Option Addr) (l : List Int) (r : ByteArray × Int) (c0 : Nat) (m : Int) (w : World) (hr : ReadsInt w .u8 A l.length l) (hc : l.length ≤ c0) (hv : Ev (fun k => PBitsEncodes.posthornref01_Encode.f k l m) r) :
    Calls Try.prog 15 #[.slice A l.length c0, .int .i64 m] w fun e w' => e = .returned (.tuple #[.string r.1, .int .i64 r.2]) ∧ Below w.heap.size w w' := by
  obtain ⟨k, hk⟩ := hv.get
  exact PBitsEncodes.posthornref01_Encode.calls k A c0 l m _ _ w (Kd.C_of_reads (readsInt_of.1 hr)) hc hk
set_option maxRecDepth 100000 in
set_option maxHeartbeats 1000000 in
theorem alive_any (w : World) : Calls Try.prog 9 #[] w fun e w' => e = .returned (.bool true) ∧ Below w.heap.size w w' := by
  have hstr := alive_str
  have HP := Lib.hid (encode_at (some ⟨w.heap.size, 0, none⟩) [255, 0] _ 2 2 0 (w.alloc (.cells #[.int .u8 255, .int .u8 0] 5)) rfl alive_enc (lit_reads .u8 _ w _ _ _ _ rfl rfl rfl (by simp)) bytes_alive (Nat.le_refl _) (by decide) (by decide) (by decide))
  have HD1 := Lib.hid (fun W => decode_at ⟨#[47, 119, 66, 61]⟩ _ W (by decide) alive_d1)
  have HD2 := Lib.hid (fun W => decode_at ⟨#[65, 61, 65, 61]⟩ _ W (by decide) alive_d2)
  go_enter Try.func9, Try.ntmps9
  go_wp2_with (first
    | (go_at_call 12; ((with_reducible refine HP.out.mono ?_); rintro e w1 ⟨rfl, hB1⟩; have HB1 := Lib.hid (below_then (below_first _) (below_first (w := w) (.cells #[.int .u8 255, .int .u8 0] 5)).size hB1); clear hB1))
    | (go_at_call 10; ((with_reducible refine (HD1.out _).mono ?_); rintro e w2 ⟨v2, rfl, hO2, hB2⟩; have HB2 := Lib.hid (below_then HB1.out HB1.out.size hB2); clear hO2 hB2))
    | (go_at_call 10; ((refine (HD2.out _).mono ?_); rintro e w3 ⟨v3, rfl, hO3, hB3⟩; have HB3 := Lib.hid (below_then (below_alloc HB2.out (.cells #[.int .i64 2, .int .i64 12] 26)) (Nat.le_trans HB2.out.size (below_first (w := w2) (.cells #[.int .i64 2, .int .i64 12] 26)).size) hB3); have hbk := blk_below (heap_alloc_new w2 _) hB3; have c0 : w3.cell? ⟨w2.heap.size, 0, none⟩ = some (.int .i64 2) := (blk_cell hbk 0).trans rfl; have c1 : w3.cell? ⟨w2.heap.size, 1, none⟩ = some (.int .i64 12) := (blk_cell hbk 1).trans rfl; have hz : w2.heap.size < w3.heap.size := blk_lt hbk; clear hO3 hB3 hbk)))
  go_ret
  exact ⟨rfl, below_alloc HB3.out _⟩
end Go.Proofs.Ytijccfblenmfcaa
