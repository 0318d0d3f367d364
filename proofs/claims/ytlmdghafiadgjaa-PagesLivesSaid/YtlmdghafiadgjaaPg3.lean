/- pages.Pack, walked. -/
import Derived.Test.YtlmdghafiadgjaaPg2
import Derived.Test.YtlmdghafiadgjaaDkR
import Derived.Laws.CopyOwn
import Derived.Test.YtlmdghafiadgjaaWLast
namespace Go.Proofs.Ytlmdghafiadgjaa
set_option linter.unusedVariables false
set_option linter.unusedSimpArgs false
open Go.RowKit Go.Proofs.YtlmdghafiadgjaaW.PrintWords Go.Proofs.YtlmdghafiadgjaaW.PrintLast

theorem splice_mid {a y b y2 : List Int} {o : Nat} (ho : a.length = o) (hl : y2.length = y.length) : splice (a ++ y ++ b) o y2 = a ++ y2 ++ b := by
  unfold splice
  rw [List.append_assoc a y b, List.take_left' ho, hl, ← List.append_assoc a y b, List.drop_left' (by rw [List.length_append, ho])]
def z1024 : List Int := List.replicate 1024 0
theorem z1024_len : z1024.length = 1024 := List.length_replicate
theorem zeros_add (a b : Nat) : List.replicate (a + b) (0 : Int) = List.replicate a 0 ++ List.replicate b 0 := by rw [List.replicate_append_replicate]
/-- What Pack lays, step by step. -/
def pk0 (k : Int) : List Int := z1024.set 0 k
def pk1 (k : Int) (m : Nat) : List Int := splice (pk0 k) 2 (be 2 m)
def pk2 (k n : Int) (m : Nat) : List Int := splice (pk1 k m) 4 (be 4 n)
def pk3 (k n t : Int) (m : Nat) : List Int := splice (pk2 k n m) 8 (be 8 t)
def pk4 (k n t : Int) (c : List Int) : List Int := splice (pk3 k n t c.length) 20 c
def pk5 (k n t : Int) (c : List Int) : List Int := splice (pk4 k n t c) 1016 (be 8 t)
def pk6 (k n t : Int) (c : List Int) : List Int := splice (pk5 k n t c) 16 (be 4 (sumV ((pk5 k n t c).take 16 ++ (pk5 k n t c).drop 20)))
theorem pk5_eq {k n t : Int} {c : List Int} (h : c.length ≤ 996) : pk5 k n t c = hdL k n t c.length ++ List.replicate 4 0 ++ rsL t c := by
  have e0 : pk0 k = [k, 0] ++ List.replicate 2 0 ++ List.replicate 1020 0 := by
    unfold pk0 z1024
    rw [show (1024 : Nat) = 1 + (1 + (2 + 1020)) from rfl, zeros_add, zeros_add, zeros_add]
    rfl
  have l2 := be_len 2 ((c.length : Nat) : Int)
  have l4 := be_len 4 n
  have l8 := be_len 8 t
  have e1 : pk1 k c.length = ([k, 0] ++ be 2 (c.length : Nat)) ++ List.replicate 4 0 ++ List.replicate 1016 0 := by
    unfold pk1
    rw [e0, splice_mid (o := 2) rfl (by rw [l2]; rfl), show (1020 : Nat) = 4 + 1016 from rfl, zeros_add]
    simp only [List.append_assoc]
  have e2 : pk2 k n c.length = ([k, 0] ++ be 2 (c.length : Nat) ++ be 4 n) ++ List.replicate 8 0 ++ List.replicate 1008 0 := by
    unfold pk2
    rw [e1, splice_mid (by simp [l2]) (by rw [l4]; rfl), show (1016 : Nat) = 8 + 1008 from rfl, zeros_add]
    simp only [List.append_assoc]
  have e3 : pk3 k n t c.length = (hdL k n t c.length ++ List.replicate 4 0) ++ List.replicate c.length 0 ++ (List.replicate (996 - c.length) 0 ++ List.replicate 8 0) := by
    unfold pk3
    rw [e2, splice_mid (by simp [l2, l4]) (by rw [l8]; rfl), show (1008 : Nat) = 4 + (c.length + ((996 - c.length) + 8)) by omega, zeros_add, zeros_add, zeros_add]
    simp only [hdL, List.append_assoc]
  have e4 : pk4 k n t c = (hdL k n t c.length ++ List.replicate 4 0 ++ c ++ List.replicate (996 - c.length) 0) ++ List.replicate 8 0 ++ [] := by
    unfold pk4
    rw [e3, splice_mid (by simp [hdL_len]) (by simp), List.append_nil]
    simp only [List.append_assoc]
  unfold pk5
  rw [e4, splice_mid (by simp [hdL_len]; omega) (by rw [l8]; rfl), List.append_nil]
  simp only [rsL, List.append_assoc]
theorem pk6_eq {k n t : Int} {c : List Int} (h : c.length ≤ 996) : pk6 k n t c = packL k n t c := by
  have hh := hdL_len k n t c.length
  have e1 : (pk5 k n t c).take 16 = hdL k n t c.length := by rw [pk5_eq h, List.append_assoc]; exact List.take_left' hh
  have e2 : (pk5 k n t c).drop 20 = rsL t c := by rw [pk5_eq h]; exact List.drop_left' (by simp [hh])
  unfold pk6
  rw [e1, e2, pk5_eq h, splice_mid hh (by rw [be_len]; rfl)]
  rfl
theorem zero_pg (W : World) : (zeroValue 70).run Try.prog W = .ok (.agg (nums .u8 z1024).toArray) W := by kernel_rfl
theorem splice_nums (xs ys : List Int) (o : Nat) : Go.splice (nums .u8 xs) o (nums .u8 ys) = nums .u8 (splice xs o ys) := by
  simp [Go.splice, splice, nums, List.map_take, List.map_drop]
theorem RowP.own {w : World} {g base : Nat} {xs : List Int} (h : RowP w g xs) (hb : base ≤ g) (hl : xs.length ≤ 1000000) : ORow .u8 70 w base (.slice (some ⟨g, 0, none⟩) xs.length xs.length) xs :=
  ⟨by simp [nums], .inr ⟨g, xs.length, _, rfl, hb, h, Nat.le_refl _, by unfold maxLen; omega, by simp [nums], by rw [Nat.mul_one]; exact List.take_of_length_le (by simp [nums])⟩⟩
theorem infoU8s : (Try.prog.info? 5).map (·.size) = some 1 := by kernel_rfl
set_option maxRecDepth 100000 in
set_option maxHeartbeats 1000000 in
theorem pack_bad (k n t : Int) (A : Option Addr) (m c : Nat) (hm : m ≤ 9223372036854775807) (w : World) (h : 996 < m ∨ n < 0 ∨ 16384 ≤ n ∨ k = 0) :
    Calls Try.prog 10 #[.int .u8 k, .int .i64 n, .int .u64 t, .slice A m c] w fun e w' => e = .returned (.tuple #[.slice none 0 0, .int .i64 (if 996 < m then 2 else 1)]) ∧ w = w' := by
  by_cases h1 : 996 < m
  · rw [if_pos h1]
    clear h
    go_enter Try.func10, Try.ntmps10
    go_wp2
    go_ret2
    exact ⟨rfl, rfl⟩
  · rw [if_neg h1]
    have h2 := h.resolve_left h1
    clear h
    by_cases h3 : n < 0
    · clear h2
      go_enter Try.func10, Try.ntmps10
      go_wp2
      go_ret2
      exact ⟨rfl, rfl⟩
    · by_cases h4 : 16384 ≤ n
      · clear h2
        go_enter Try.func10, Try.ntmps10
        go_wp2
        go_ret2
        exact ⟨rfl, rfl⟩
      · obtain rfl : k = 0 := by omega
        clear h2
        go_enter Try.func10, Try.ntmps10
        go_wp2
        go_ret2
        exact ⟨rfl, rfl⟩
theorem below_self {w W W1 : World} {g : Nat} (h : Below w.heap.size w W) (hF : Frame (fun i => i = g) W W1) (hg : w.heap.size ≤ g) : Below w.heap.size w W1 :=
  ⟨hF.os.trans h.os, hF.tape.trans h.tape, hF.output.trans h.output, Nat.le_trans h.size hF.size, fun i hi => (hF.block i (Nat.lt_of_lt_of_le hi h.size) (by omega)).trans (h.block i hi)⟩
theorem pk0_len (k : Int) : (pk0 k).length = 1024 := by unfold pk0; rw [List.length_set]; exact z1024_len
theorem pk1_len (k : Int) (m : Nat) : (pk1 k m).length = 1024 := by unfold pk1; rw [splice_len (by rw [be_len, pk0_len]; decide), pk0_len]
theorem pk2_len (k n : Int) (m : Nat) : (pk2 k n m).length = 1024 := by unfold pk2; rw [splice_len (by rw [be_len, pk1_len]; decide), pk1_len]
theorem pk3_len (k n t : Int) (m : Nat) : (pk3 k n t m).length = 1024 := by unfold pk3; rw [splice_len (by rw [be_len, pk2_len]; decide), pk2_len]
theorem pk4_len {k n t : Int} {c : List Int} (h : c.length ≤ 996) : (pk4 k n t c).length = 1024 := by unfold pk4; rw [splice_len (by rw [pk3_len]; omega), pk3_len]
theorem pk5_len {k n t : Int} {c : List Int} (h : c.length ≤ 996) : (pk5 k n t c).length = 1024 := by unfold pk5; rw [splice_len (by rw [be_len, pk4_len h]; decide), pk4_len h]
theorem pk5_bytes {k n t : Int} {c : List Int} (h : PkOk k n t c) : Bytes (pk5 k n t c) := by
  rw [pk5_eq h.m]
  have h2 : Bytes [k, 0] := fun x hx => by
    simp only [List.mem_cons, List.not_mem_nil, or_false] at hx
    have := h.k0; have := h.k1
    rcases hx with rfl | rfl <;> omega
  have hh : Bytes (hdL k n t c.length) := ((h2.append (be_bytes _ _)).append (be_bytes _ _)).append (be_bytes _ _)
  have hr : Bytes (rsL t c) := (h.c.append (zeros_bytes _)).append (be_bytes _ _)
  exact (hh.append (zeros_bytes _)).append hr
theorem nums_one8 (xs : List Int) : ∀ u ∈ nums .u8 xs, u.oneCell' = true := by
  intro u hu
  simp only [nums, List.mem_map] at hu
  obtain ⟨x, _, rfl⟩ := hu
  rfl
theorem reads_src {w : World} {A : Option Addr} {n : Nat} {xs : List Int} (h : ReadsInt w .u8 A n xs) (h0 : 0 < n) : ∃ ad, A = some ad ∧ ∀ j v, (nums .u8 xs)[j]? = some v → w.cell? (ad.add j) = some v := by
  obtain ⟨ad, hA, hc⟩ := h.2.2 h0
  refine ⟨ad, hA, fun j v hv => ?_⟩
  have hj : j < xs.length := by
    rcases Nat.lt_or_ge j xs.length with h2 | h2
    · exact h2
    · rw [List.getElem?_eq_none (by simpa [nums] using h2)] at hv; cases hv
  rw [hc j (by rw [← h.1]; exact hj)]
  simp only [nums, List.getElem?_map, List.getElem?_eq_getElem hj, Option.map_some] at hv
  rw [← hv]
  simp [List.getD_eq_getElem?_getD, List.getElem?_eq_getElem hj]
theorem reads_below8 {w w1 : World} {A : Option Addr} {n : Nat} {xs : List Int} (h : ReadsInt w .u8 A n xs) (hB : Below w.heap.size w w1) : ReadsInt w1 .u8 A n xs :=
  ⟨h.1, h.2.1, fun h0 => by
    obtain ⟨ad, hA, hc⟩ := h.2.2 h0
    exact ⟨ad, hA, fun j hj => pw_cell_below hB (hc j hj)⟩⟩
set_option maxRecDepth 100000 in
set_option maxHeartbeats 4000000 in
theorem pack_ok (k n t : Int) (A : Option Addr) (c : Nat) (xs : List Int) (w : World) (h : PkOk k n t xs) (hr : ReadsInt w .u8 A xs.length xs) :
    Calls Try.prog 10 #[.int .u8 k, .int .i64 n, .int .u64 t, .slice A xs.length c] w fun e w' => ∃ g, e = .returned (.tuple #[.slice (some ⟨g, 0, none⟩) 1024 1024, .int .i64 0]) ∧ RowP w' g (packL k n t xs) ∧ w.heap.size ≤ g ∧ Below w.heap.size w w' := by
  have hm := h.m
  have hz := zero_pg
  have HR := Lib.hid hr
  have H := Lib.hid h
  have hk0 : (k == 0) = false := beq_eq_false_iff_ne.mpr (by have := h.k0; omega)
  obtain ⟨hn0, hn1⟩ : 0 ≤ n ∧ n < 16384 := ⟨h.n0, h.n1⟩
  have h0 : Hid (RowP (w.alloc (.cells (nums .u8 z1024).toArray 70)) w.heap.size z1024) := Lib.hid (heap_alloc_last w _)
  have y0 := h0.out.cell 0 (by rw [z1024_len]; decide)
  have y1 := blk_frozen h0.out 0
  have hset : nums .u8 (pk0 k) = (nums .u8 z1024).set 0 (.int .u8 k) := by unfold pk0; simp [nums, List.map_set]
  have H1 : Hid (RowP (w.alloc (.cells ((nums .u8 z1024).set 0 (.int .u8 k)).toArray 70)) w.heap.size (pk0 k)) := Lib.hid (by rw [← hset]; exact heap_alloc_last w _)
  have B1 : Hid (Below w.heap.size w (w.alloc (.cells ((nums .u8 z1024).set 0 (.int .u8 k)).toArray 70))) := Lib.hid (below_first _)
  clear hset
  obtain ⟨g, hg⟩ : ∃ g, g = w.heap.size := ⟨_, rfl⟩
  have HG := Lib.hid hg
  have HP1 := Lib.hid (pput_any w.heap.size 2 2 1022 (xs.length : Int) (pk0 k) _ H1.out (by rw [pk0_len]; decide) (by decide) ⟨by omega, by omega⟩)
  have HP2 := Lib.hid (fun W (hW : RowP W w.heap.size (pk1 k xs.length)) => pput_any w.heap.size 4 4 1020 n (pk1 k xs.length) W hW (by rw [pk1_len]; decide) (by decide) ⟨by omega, by omega⟩)
  have HP3 := Lib.hid (fun W (hW : RowP W w.heap.size (pk2 k n xs.length)) => pput_any w.heap.size 8 8 1016 t (pk2 k n xs.length) W hW (by rw [pk2_len]; decide) (by decide) ⟨h.t0, h.t1⟩)
  have HP5 := Lib.hid (fun W (hW : RowP W w.heap.size (pk4 k n t xs)) => pput_any w.heap.size 1016 8 8 t (pk4 k n t xs) W hW (by rw [pk4_len hm]; decide) (by decide) ⟨h.t0, h.t1⟩)
  have HSU := Lib.hid (fun W (hW : RowP W w.heap.size (pk5 k n t xs)) => sum_any w.heap.size (pk5 k n t xs) W hW (pk5_len hm) (pk5_bytes h))
  have hsr := sumV_range ((pk5 k n t xs).take 16 ++ (pk5 k n t xs).drop 20)
  have HP6 := Lib.hid (fun W (hW : RowP W w.heap.size (pk5 k n t xs)) => pput_any w.heap.size 16 4 1008 (sumV ((pk5 k n t xs).take 16 ++ (pk5 k n t xs).drop 20)) (pk5 k n t xs) W hW (by rw [pk5_len hm]; decide) (by decide) ⟨hsr.1, by omega⟩)
  have HL3 : Hid ((pk3 k n t xs.length).length = 1024) := Lib.hid (pk3_len _ _ _ _)
  have HE := Lib.hid (pk6_eq (k := k) (n := n) (t := t) hm)
  have HE6 : Hid (splice (pk5 k n t xs) 16 (be 4 (sumV ((pk5 k n t xs).take 16 ++ (pk5 k n t xs).drop 20))) = pk6 k n t xs) := Lib.hid rfl
  generalize sumV ((pk5 k n t xs).take 16 ++ (pk5 k n t xs).drop 20) = sv at *
  clear hg hsr
  rw [show ((0 : Nat) : Int) = 0 from rfl] at y0
  generalize rd z1024 0 = zz at *
  clear h hr
  go_enter Try.func10, Try.ntmps10
  go_wp2_with (first
    | (go_at_call 31; ((with_reducible refine HP1.out.mono ?_); rintro e w2 ⟨rfl, hP, hF⟩; have H2 : Hid (RowP w2 w.heap.size (pk1 k xs.length)) := Lib.hid hP; have B2 := Lib.hid (below_self B1.out hF (Nat.le_refl _)); clear hP hF))
    | (go_at_call 31; ((with_reducible refine (HP2.out _ H2.out).mono ?_); rintro e w3 ⟨rfl, hP, hF⟩; have H3 : Hid (RowP w3 w.heap.size (pk2 k n xs.length)) := Lib.hid hP; have B3 := Lib.hid (below_self B2.out hF (Nat.le_refl _)); clear hP hF))
    | (go_at_call 31; ((with_reducible refine (HP3.out _ H3.out).mono ?_); rintro e w4 ⟨rfl, hP, hF⟩; have H4 : Hid (RowP w4 w.heap.size (pk3 k n t xs.length)) := Lib.hid hP; have B4 := Lib.hid (below_self B3.out hF (Nat.le_refl _)); clear hP hF))
    | (refine wpList_copy_splice (o := ⟨some 42, .call { callee := .builtin .copy, args := #[.tmp 40, .tmp 41], argTypes := #[23, 23] }, _, _, _, none⟩) rfl (.tmp 40) (.tmp 41) 23 23 rfl 5 Try.underlying23 infoU8s (some ⟨w.heap.size, 20, none⟩) A 1004 1004 xs.length c rfl rfl w.heap.size 20 (nums .u8 (pk3 k n t xs.length)) 70 H4.out (nums .u8 xs) (by show _ = min xs.length 1004; rw [Nat.min_eq_left (by omega)]; simp [nums]) (fun h0 => ⟨rfl, reads_src (reads_below8 HR.out B4.out) (by simpa [nums] using h0)⟩) (by have := HL3.out; simp [nums]; omega) (nums_one8 xs) w.heap.size w B4.out (Nat.le_refl _) ?_; intro w5 h5 hB5; rw [splice_nums] at h5; have H5 : Hid (RowP w5 w.heap.size (pk4 k n t xs)) := Lib.hid h5.out; have B5 := Lib.hid hB5; clear h5 hB5)
    | (go_at_call 31; ((with_reducible refine (HP5.out _ H5.out).mono ?_); rintro e w6 ⟨rfl, hP, hF⟩; have H6 : Hid (RowP w6 w.heap.size (pk5 k n t xs)) := Lib.hid hP; have B6 := Lib.hid (below_self B5.out hF (Nat.le_refl _)); clear hP hF)))
  -- W12
  refine start_ (n := 3) (S := fun w' => True) (ds := []) #[false, false, false] (by kernel_rfl) rfl rfl trivial (fun hHeld => ?_)
  refine pure_ (i := 0) (N := some 46) (v := ?_) (a' := ?_) #[true, false, false] rfl rfl (by kernel_rfl) (fun _ _ _ h => h) (Or.inl ⟨by rfl, ?_⟩) ?_ ?_
  rotate_left
  · intro w'
    go_simp
    with_reducible rfl
  rotate_left
  · simp only [Act.put, List.setIfInBounds_toArray, List.set_cons_zero, List.set_cons_succ, i64_w, i32_w]
    rfl
  refine one_ (i := 1) (N := some 47) #[true, true, false] rfl rfl (by kernel_rfl) (by decide) (fun K hK => ?_)
  refine goes_ Try.func32 (by kernel_rfl) rfl #[.pointer (some ⟨w.heap.size, 0, none⟩)] (by rfl) rfl rfl (by simp only [List.map_toArray, List.map_cons, List.map_nil] <;> rfl) ?_
  with_reducible refine (HSU.out w6.drew (RowP.keep (w := w6) H6.out rfl)).mono ?_
  rintro e w7 ⟨rfl, hB⟩
  refine ⟨_, rfl, ?_⟩
  have HX7 := Lib.hid (below_step (b_drew (Below.refl _ _)) hB)
  have H7 : Hid (RowP w7 w.heap.size (pk5 k n t xs)) := Lib.hid (blk_below H6.out HX7.out)
  have B7 := Lib.hid (below_then B6.out B6.out.size HX7.out)
  clear hB
  refine hK.out _ _ trivial (fun hHeld => ?_)
  clear hK K
  refine norm_ (a' := ?_) ?_ ?_
  rotate_left
  · show Act.put _ (some 47) _ = _
    simp only [Act.put, List.setIfInBounds_toArray, List.set_cons_zero, List.set_cons_succ, i64_w, i32_w]
    rfl
  refine one_ (i := 2) (N := some 48) #[true, true, true] rfl rfl (by kernel_rfl) (by decide) (fun K hK => ?_)
  refine goes_ Try.func31 (by kernel_rfl) rfl #[.slice (some ⟨w.heap.size, 16, none⟩) 4 1008, .int .u64 sv] (by rfl) rfl rfl (by simp only [List.map_toArray, List.map_cons, List.map_nil] <;> rfl) ?_
  with_reducible refine (HP6.out _ H7.out).mono ?_
  rintro e w8 ⟨rfl, hP, hF⟩
  refine ⟨_, rfl, ?_⟩
  have H8 := Lib.hid hP
  have B8 := Lib.hid (below_self B7.out hF (Nat.le_refl _))
  clear hP hF
  refine hK.out _ _ trivial (fun hHeld => ?_)
  clear hK K
  refine norm_ (a' := ?_) ?_ ?_
  rotate_left
  · show Act.put _ (some 48) _ = _
    simp only [Act.put, List.setIfInBounds_toArray, List.set_cons_zero, List.set_cons_succ, i64_w, i32_w]
    rfl
  refine done_ (by kernel_rfl) ?_
  -- ENDW12
  go_wp2
  go_ret2
  exact ⟨w.heap.size, rfl, by rw [← HE.out, ← HE6.out]; exact H8.out, Nat.le_refl _, B8.out⟩
end Go.Proofs.Ytlmdghafiadgjaa
