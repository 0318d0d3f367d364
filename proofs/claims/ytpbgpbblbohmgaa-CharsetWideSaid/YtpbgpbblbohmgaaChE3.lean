/- charset: Encode, Least. -/
import Derived.Test.YtpbgpbblbohmgaaChE2
import Derived.RegionTactic
import Derived.BigRegion
namespace Go.Proofs.Ytpbgpbblbohmgaa
open Go.RowKit Go.Proofs.YtpbgpbblbohmgaaW.PrintWords

/-- Points' bytes in a set; the place of the point that has none. -/
def encF (f : Int) : List Int → List Int × Option Nat
  | [] => ([], none)
  | p :: t => match writeV f p with
    | none => ([], some 0)
    | some bs => (bs ++ (encF f t).1, (encF f t).2.map (· + (putB p).length))
def bomV (f : Int) : List Int := if f = 6 then [254, 255] else []
def resE (f : Int) (d : List Int × Option Nat) : List Int × Int × Int := match d.2 with | none => (bomV f ++ d.1, 0, 0) | some n => ([], n, 10)
def encodeV (s : ByteArray) (l : List Int) : List Int × Int × Int :=
  if formV s = 0 then ([], 0, 143) else if (ptsV l).2.2 = 0 then resE (formV s) (encF (formV s) (ptsV l).1) else ([], (ptsV l).2.1, (ptsV l).2.2)
theorem encF_nil (f : Int) : encF f [] = ([], none) := rfl
theorem encF_none {f p : Int} {t : List Int} (h : writeV f p = none) : encF f (p :: t) = ([], some 0) := by simp [encF, h]
theorem encF_some {f p : Int} {t bs : List Int} (h : writeV f p = some bs) : encF f (p :: t) = joinD bs (putB p).length (encF f t) := by simp [encF, h, joinD]
theorem put2_le2 (u : Int) (b : Bool) : (put2 u b).length ≤ 2 := by rw [put2_len]; omega
theorem writeV_len {f p : Int} {bs : List Int} (h : writeV f p = some bs) : bs.length ≤ 4 := by
  unfold writeV at h
  have h2 := put2_len p (f == 8)
  have h3 := put2_len (55296 + (p - 65536) / 1024) (f == 8)
  have h4 := put2_len (56320 + (p - 65536) % 1024) (f == 8)
  repeat' split at h
  all_goals first
    | (injection h with h; subst h; first | exact putB_len p | (simp only [List.length_append]; omega) | omega | simp)
    | cases h
theorem ORow.keep_ {k : IntKind} {e : TypeId} {w w' : World} {base : Nat} {v : Value} {xs : List Int} (h : ORow k e w base v xs) (hb : ∀ g, v.ownBlock = some g → w'.heap[g]? = w.heap[g]?) : ORow k e w' base v xs := by
  obtain ⟨h1, h2⟩ := h
  refine ⟨h1, ?_⟩
  rcases h2 with h2 | ⟨g, cap, cur, rfl, hg, hh, r⟩
  · exact .inl h2
  · exact .inr ⟨g, cap, cur, rfl, hg, (hb g rfl).trans hh, r⟩
theorem PutTo.row {base : Nat} {w w' : World} {v0 v u : Value} {xs ys zs : List Int} (h : PutTo base w w' v0 v xs) (h0 : ORow .u8 5 w base v0 ys) (hu : ORow .i32 21 w base u zs) : ORow .i32 21 w' base u zs := by
  refine hu.keep_ fun g hg => h.keep g (hu.lt g hg).2 ?_
  rcases own_type_ne hu h0 (by decide) with e | e
  · rw [e] at hg; cases hg
  · rw [hg] at e; exact e
theorem write_any (f p : Int) (base : Nat) (v0 : Value) (out : List Int) (w : World) (hp : isPt p = true) (hO : ORow .u8 5 w base v0 out) (hb : base ≤ w.heap.size) (hl : out.length ≤ 17592186044416) {bs : List Int} (h : writeV f p = some bs) :
    Calls Try.prog 27 #[v0, .int .i64 f, .int .i32 p] w (WSome base w v0 (out ++ bs)) := by
  have hpb := isPt_bd hp
  unfold writeV at h
  by_cases h2 : f = 2
  · rw [if_pos h2] at h; injection h with h; subst h; subst h2
    exact write_utf p base v0 out w hp hO hb (by omega)
  · rw [if_neg h2] at h
    by_cases h6 : f = 6 ∨ f = 7 ∨ f = 8
    · rw [if_pos h6] at h
      injection h with h
      have hf : (f = 6 ∨ f = 7) ∧ (f == 8) = false ∨ f = 8 ∧ (f == 8) = true := by
        rcases h6 with h | h | h
        · exact .inl ⟨.inl h, by rw [h]; rfl⟩
        · exact .inl ⟨.inr h, by rw [h]; rfl⟩
        · exact .inr ⟨h, by rw [h]; rfl⟩
      by_cases hlt : p < 65536
      · rw [if_pos hlt] at h; subst h
        exact write_two f p _ base v0 out w hf hpb.1 hlt hO hb (by omega)
      · rw [if_neg hlt] at h; subst h
        exact write_four f p _ base v0 out w hf (by omega) (by omega) hO hb hl
    · rw [if_neg h6] at h
      by_cases hv : byteV f p < 0
      · rw [if_pos hv] at h; cases h
      · rw [if_neg hv] at h; injection h with h; subst h
        exact write_one f p base v0 out w h2 (fun e => h6 (.inl e)) (fun e => h6 (.inr (.inl e))) (fun e => h6 (.inr (.inr e))) (by omega) hO hb (by omega)
theorem write_any_none (f p : Int) (v0 : Value) (w : World) (h : writeV f p = none) : Calls Try.prog 27 #[v0, .int .i64 f, .int .i32 p] w (WNone w) := by
  unfold writeV at h
  by_cases h2 : f = 2
  · rw [if_pos h2] at h; cases h
  · rw [if_neg h2] at h
    by_cases h6 : f = 6 ∨ f = 7 ∨ f = 8
    · rw [if_pos h6] at h; cases h
    · rw [if_neg h6] at h
      by_cases hv : byteV f p < 0
      · exact write_none f p v0 w h2 (fun e => h6 (.inl e)) (fun e => h6 (.inr (.inl e))) (fun e => h6 (.inr (.inr e))) hv
      · rw [if_neg hv] at h; cases h
set_option maxRecDepth 100000 in
set_option maxHeartbeats 1000000 in
theorem encode_no (s : ByteArray) (A : Option Addr) (l : List Int) (c : Nat) (w : World) (hs : s.size ≤ 9223372036854775807) (hl : l.length ≤ 1048576) (hf : formV s = 0) :
    Calls Try.prog 14 #[.string s, .slice A l.length c] w (TxtPost w (encodeV s l)) := by
  have HD : Hid (encodeV s l = ([], 0, 143)) := Lib.hid (by rw [encodeV, if_pos hf])
  have HC := Lib.hid (fun W => fits_any s A l.length c W hs hl)
  have HE : Hid (fitsE s = 143) := Lib.hid (by rw [fitsE, if_pos hf])
  unfold FitsPost at HC
  rw [HE.out, hf] at HC
  clear hf
  go_enter Try.func14, Try.ntmps14
  go_wp2_with (first
    | (go_at_call 19; ((with_reducible refine (HC.out _).mono ?_); rintro e w1 ⟨rfl, hB⟩; have HF1 := Lib.hid (blk_below (heap_alloc_new w (.cells #[.int .i64 0, .int .i64 0] 26)) hB); have HB1 := Lib.hid (below_then (below_first _) (below_first _).size hB); have c0 : w1.cell? ⟨w.heap.size, 0, none⟩ = some (.int .i64 0) := (blk_cell HF1.out 0).trans rfl; have c1 : w1.cell? ⟨w.heap.size, 1, none⟩ = some (.int .i64 0) := (blk_cell HF1.out 1).trans rfl; have z0 := blk_frozen HF1.out 0; have z1 := blk_frozen HF1.out 1; have hszz : w.heap.size < w1.heap.size := blk_lt HF1.out; clear hB)))
  go_region
  go_wp2
  have HF2 := blk_below (blk_set (blk_set HF1.out 0 (.int .i64 0)) 1 (.int .i64 143)) (below_first (.cells #[.int .i64 0, .int .i64 143] 26))
  refine bodyPost_ret (results_tc rfl _ _ _ _ _ _ _ rfl HF2 Try.underlying26 rfl (by kernel_rfl)) rfl ?_
  rw [HD.out]
  exact ⟨_, rfl, ORow.nil _ _ _ _, b_drew (below_alloc (below_set (below_set HB1.out (Nat.le_refl _)) (Nat.le_refl _)) _)⟩
set_option maxRecDepth 100000 in
set_option maxHeartbeats 1000000 in
theorem encode_bad (s : ByteArray) (A : Option Addr) (l : List Int) (c : Nat) (w : World) (hr : ReadsInt w .u8 A l.length l) (hby : Bytes l) (hc : l.length ≤ c) (hs : s.size ≤ 9223372036854775807) (hl : l.length ≤ 1048576) (hf : formV s ≠ 0) (hcd : (ptsV l).2.2 ≠ 0) :
    Calls Try.prog 14 #[.string s, .slice A l.length c] w (TxtPost w (encodeV s l)) := by
  have HC := Lib.hid (fun W => fits_any s A l.length c W hs hl)
  have HE : Hid (fitsE s = 0) := Lib.hid (by rw [fitsE, if_neg hf])
  have HP := Lib.hid (fun W h => points_any A l c W h hby hc (by omega))
  have HD2 : Hid (encodeV s l = ([], (ptsV l).2.1, (ptsV l).2.2)) := Lib.hid (by rw [encodeV, if_neg hf, if_neg hcd])
  have HR := Lib.hid hr
  unfold FitsPost at HC
  rw [HE.out] at HC
  generalize formV s = f at *
  generalize ptsV l = r at *
  obtain ⟨ps, at_, cd⟩ := r
  simp only at hcd HD2
  clear hf hr hby hl
  have b0 : (cd != 0) = true := bne_iff_ne.mpr hcd
  have b1 : (cd == 0) = false := beq_eq_false_iff_ne.mpr hcd
  clear hcd
  go_enter Try.func14, Try.ntmps14
  go_wp2_with (first
    | (go_at_call 19; ((with_reducible refine (HC.out _).mono ?_); rintro e w1 ⟨rfl, hB⟩; have HF1 := Lib.hid (blk_below (heap_alloc_new w (.cells #[.int .i64 0, .int .i64 0] 26)) hB); have HB1 := Lib.hid (below_then (below_first _) (below_first _).size hB); have hszz : w.heap.size < w1.heap.size := blk_lt HF1.out; clear hB))
    | (go_at_call 15; ((with_reducible refine (HP.out _ (HR.out.below (below_alloc HB1.out _))).mono ?_); rintro e w2 ⟨v, rfl, hO, hB⟩; have HG2 := Lib.hid (blk_below (heap_alloc_new w1 (.cells #[.int .i64 0, .int .i64 0] 26)) hB); have HF2 := Lib.hid (blk_below (blk_below HF1.out (below_first (.cells #[.int .i64 0, .int .i64 0] 26))) hB); have HB2 := Lib.hid (below_then (below_alloc HB1.out _) (below_alloc HB1.out _).size hB); have c0 : w2.cell? ⟨w1.heap.size, 0, none⟩ = some (.int .i64 0) := (blk_cell HG2.out 0).trans rfl; have c1 : w2.cell? ⟨w1.heap.size, 1, none⟩ = some (.int .i64 0) := (blk_cell HG2.out 1).trans rfl; have z0 := blk_frozen HG2.out 0; have z1 := blk_frozen HG2.out 1; clear hO hB)))
  have HG5 := Lib.hid (blk_set (blk_set HG2.out 0 (.int .i64 at_)) 1 (.int .i64 cd))
  have HF5 := Lib.hid (blk_far (blk_far HF2.out (p := ⟨w1.heap.size, 0, none⟩) (Nat.ne_of_lt hszz) (.int .i64 at_)) (p := ⟨w1.heap.size, 1, none⟩) (Nat.ne_of_lt hszz) (.int .i64 cd))
  have HB5 := Lib.hid (below_set (below_set HB2.out (Nat.le_of_lt hszz) (j := 0) (v := .int .i64 at_)) (Nat.le_of_lt hszz) (j := 1) (v := .int .i64 cd))
  clear c0 c1 z0 z1
  generalize (w2.setCell ⟨w1.heap.size, 0, none⟩ (.int .i64 at_)).setCell ⟨w1.heap.size, 1, none⟩ (.int .i64 cd) = w5 at *
  have c0 : w5.cell? ⟨w1.heap.size, 0, none⟩ = some (.int .i64 at_) := (blk_cell HG5.out 0).trans rfl
  have c1 : w5.cell? ⟨w1.heap.size, 1, none⟩ = some (.int .i64 cd) := (blk_cell HG5.out 1).trans rfl
  have d0 : w5.cell? ⟨w.heap.size, 0, none⟩ = some (.int .i64 0) := (blk_cell HF5.out 0).trans rfl
  have d1 : w5.cell? ⟨w.heap.size, 1, none⟩ = some (.int .i64 0) := (blk_cell HF5.out 1).trans rfl
  have z0 := blk_frozen HF5.out 0
  have z1 := blk_frozen HF5.out 1
  clear hszz
  go_region
  go_wp2
  have HF6 := blk_set (blk_set HF5.out 0 (.int .i64 at_)) 1 (.int .i64 cd)
  refine bodyPost_ret (results_tc rfl _ _ _ _ _ _ _ rfl HF6 Try.underlying26 rfl (by kernel_rfl)) rfl ?_
  rw [HD2.out]
  exact ⟨_, rfl, ORow.nil _ _ _ _, b_drew (below_set (below_set HB5.out (Nat.le_refl _)) (Nat.le_refl _))⟩
end Go.Proofs.Ytpbgpbblbohmgaa
