/- pages, plain: numbers as bytes, the sum, a page's bytes. -/
import Derived.Test.YtlmdghafiadgjaaBase2
namespace Go.Proofs.Ytlmdghafiadgjaa
set_option linter.unusedVariables false
set_option linter.unusedSimpArgs false
open Go.RowKit Go.Proofs.YtlmdghafiadgjaaW.PrintWords

/-- A number as n bytes, the greatest first. -/
def be : Nat → Int → List Int
  | 0, _ => []
  | n + 1, v => be n (v / 256) ++ [v % 256]
def ge (l : List Int) : Int := l.foldl (fun v c => v * 256 + c) 0
theorem be_len (n : Nat) : ∀ v, (be n v).length = n := by
  induction n with
  | zero => intro v; rfl
  | succ n ih => intro v; rw [be, List.length_append, ih]; rfl
theorem be_bytes (n : Nat) : ∀ v, Bytes (be n v) := by
  induction n with
  | zero => intro v x hx; cases hx
  | succ n ih =>
    intro v x hx
    rw [be] at hx
    rcases List.mem_append.1 hx with hx | hx
    · exact ih _ x hx
    · rw [List.mem_singleton.1 hx]; omega
theorem ge_snoc (l : List Int) (c : Int) : ge (l ++ [c]) = ge l * 256 + c := by unfold ge; rw [List.foldl_append]; rfl
theorem snoc_ind {P : List Int → Prop} (h0 : P []) (h1 : ∀ l c, P l → P (l ++ [c])) : ∀ l, P l := by
  intro l
  suffices h : ∀ n, ∀ l : List Int, l.length = n → P l from h _ l rfl
  intro n
  induction n with
  | zero => intro l hl; rw [List.eq_nil_of_length_eq_zero hl]; exact h0
  | succ n ih =>
    intro l hl
    have hne : l ≠ [] := by intro e; rw [e] at hl; cases hl
    rw [← List.dropLast_concat_getLast hne]
    exact h1 _ _ (ih _ (by rw [List.length_dropLast]; omega))
theorem ge_range {l : List Int} (h : Bytes l) : 0 ≤ ge l ∧ ge l < 256 ^ l.length := by
  revert h
  refine snoc_ind (P := fun l => Bytes l → 0 ≤ ge l ∧ ge l < 256 ^ l.length) ?_ ?_ l
  · intro _; exact ⟨Int.le_refl _, by decide⟩
  · intro l c ih hb
    have hc := hb c (by simp)
    obtain ⟨h1, h2⟩ := ih (fun x hx => hb x (by simp [hx]))
    rw [ge_snoc, List.length_append, List.length_singleton, Int.pow_succ]
    constructor <;> omega
theorem ge_be (n : Nat) : ∀ v : Int, 0 ≤ v → v < 256 ^ n → ge (be n v) = v := by
  induction n with
  | zero => intro v h0 h1; simp at h1; have : v = 0 := by omega
            rw [this]; rfl
  | succ n ih =>
    intro v h0 h1
    rw [Int.pow_succ] at h1
    rw [be, ge_snoc, ih (v / 256) (by omega) (by omega)]
    omega
theorem be_ge {l : List Int} (h : Bytes l) : be l.length (ge l) = l := by
  revert h
  refine snoc_ind (P := fun l => Bytes l → be l.length (ge l) = l) ?_ ?_ l
  · intro _; rfl
  · intro l c ih hb
    have hc := hb c (by simp)
    have h1 := ih (fun x hx => hb x (by simp [hx]))
    rw [ge_snoc, List.length_append, List.length_singleton, be, show (ge l * 256 + c) / 256 = ge l by omega, show (ge l * 256 + c) % 256 = c by omega, h1]
theorem be_inj {n : Nat} {l : List Int} (h : Bytes l) (hl : l.length = n) {v : Int} (hv : be n v = l) : ge l = ge (be n v) := by rw [hv]
/-- The sum's two halves. -/
def sumS (l : List Int) : Int × Int := l.foldl (fun s c => ((s.1 + c) % 65521, (s.2 + (s.1 + c) % 65521) % 65521)) (1, 0)
def sumV (l : List Int) : Int := (sumS l).2 * 65536 + (sumS l).1
theorem sumS_snoc (l : List Int) (c : Int) : sumS (l ++ [c]) = (((sumS l).1 + c) % 65521, ((sumS l).2 + ((sumS l).1 + c) % 65521) % 65521) := by unfold sumS; rw [List.foldl_append]; rfl
theorem sumS_range (l : List Int) : 0 ≤ (sumS l).1 ∧ (sumS l).1 < 65521 ∧ 0 ≤ (sumS l).2 ∧ (sumS l).2 < 65521 := by
  refine snoc_ind (P := fun l => 0 ≤ (sumS l).1 ∧ (sumS l).1 < 65521 ∧ 0 ≤ (sumS l).2 ∧ (sumS l).2 < 65521) ?_ ?_ l
  · decide
  · intro l c _
    rw [sumS_snoc]
    simp only
    omega
theorem sumV_range (l : List Int) : 0 ≤ sumV l ∧ sumV l < 4294967296 := by
  have := sumS_range l
  unfold sumV
  omega
theorem sumS_fst (l : List Int) : (sumS l).1 = (1 + l.sum) % 65521 := by
  refine snoc_ind (P := fun l => (sumS l).1 = (1 + l.sum) % 65521) ?_ ?_ l
  · decide
  · intro l c ih
    rw [sumS_snoc, List.sum_append]
    simp only [List.sum_cons, List.sum_nil]
    rw [ih]; omega
/-- A page's bytes. -/
def hdL (k n t : Int) (m : Nat) : List Int := [k, 0] ++ be 2 m ++ be 4 n ++ be 8 t
def rsL (t : Int) (c : List Int) : List Int := c ++ List.replicate (996 - c.length) 0 ++ be 8 t
def packL (k n t : Int) (c : List Int) : List Int := hdL k n t c.length ++ be 4 (sumV (hdL k n t c.length ++ rsL t c)) ++ rsL t c
theorem hdL_len (k n t : Int) (m : Nat) : (hdL k n t m).length = 16 := by simp [hdL, be_len]
theorem rsL_len {t : Int} {c : List Int} (h : c.length ≤ 996) : (rsL t c).length = 1004 := by simp [rsL, be_len]; omega
theorem packL_len {k n t : Int} {c : List Int} (h : c.length ≤ 996) : (packL k n t c).length = 1024 := by
  simp only [packL, List.length_append, hdL_len, rsL_len h, be_len]
theorem zeros_bytes (n : Nat) : Bytes (List.replicate n (0 : Int)) := fun x hx => by rw [List.eq_of_mem_replicate hx]; omega
theorem packL_bytes {k n t : Int} {c : List Int} (hk : 0 ≤ k ∧ k ≤ 255) (hc : Bytes c) : Bytes (packL k n t c) := by
  have h2 : Bytes [k, 0] := fun x hx => by
    simp only [List.mem_cons, List.not_mem_nil, or_false] at hx
    rcases hx with rfl | rfl <;> omega
  have hh : Bytes (hdL k n t c.length) := ((h2.append (be_bytes _ _)).append (be_bytes _ _)).append (be_bytes _ _)
  have hr : Bytes (rsL t c) := (hc.append (zeros_bytes _)).append (be_bytes _ _)
  exact (hh.append (be_bytes _ _)).append hr
theorem sum_set : ∀ (l : List Int) (p : Nat) (u : Int) (h : p < l.length), (l.set p u).sum = l.sum - l[p] + u
  | [], p, u, h => by simp at h
  | x :: l, 0, u, h => by simp only [List.set_cons_zero, List.sum_cons, List.getElem_cons_zero]; omega
  | x :: l, p + 1, u, h => by
    simp only [List.set_cons_succ, List.sum_cons, List.getElem_cons_succ]
    rw [sum_set l p u (by simpa using h)]; omega
/-- A piece of a list. -/
def seg (l : List Int) (a b : Nat) : List Int := (l.drop a).take (b - a)
theorem seg_len {l : List Int} {a b : Nat} (h : b ≤ l.length) : (seg l a b).length = b - a := by simp [seg]; omega
theorem seg_bytes {l : List Int} (h : Bytes l) (a b : Nat) : Bytes (seg l a b) := (h.drop a).take _
theorem seg_mid (x y z : List Int) {a b : Nat} (ha : x.length = a) (hb : a + y.length = b) : seg (x ++ y ++ z) a b = y := by
  unfold seg
  rw [List.append_assoc, List.drop_left' ha, List.take_left' (by omega)]
theorem seg_cut (l : List Int) {a b : Nat} (h : a ≤ b) : l.take a ++ seg l a b = l.take b := by
  unfold seg
  rw [show b = a + (b - a) by omega, List.take_add]
  simp
/-- Is it a page of a number? -/
def pageB (b : List Int) (n : Int) : Bool :=
  decide (b.length = 1024) && (decide (0 ≤ n) && (decide (n < 16384) && (decide (rd b 0 ≠ 0) && (decide (rd b 1 = 0) && (decide (ge (seg b 2 4) ≤ 996) && (decide (ge (seg b 4 8) = n) && (decide (ge (seg b 1016 1024) = ge (seg b 8 16)) && (decide (ge (seg b 16 20) = sumV (b.take 16 ++ b.drop 20)) && (seg b (20 + (ge (seg b 2 4)).toNat) 1016).all (fun c => decide (c = 0))))))))))
structure IsPage (b : List Int) (n : Int) : Prop where
  len : b.length = 1024
  n0 : 0 ≤ n
  n1 : n < 16384
  k : rd b 0 ≠ 0
  z : rd b 1 = 0
  m : ge (seg b 2 4) ≤ 996
  at_ : ge (seg b 4 8) = n
  turn : ge (seg b 1016 1024) = ge (seg b 8 16)
  sum : ge (seg b 16 20) = sumV (b.take 16 ++ b.drop 20)
  rest : ∀ c ∈ seg b (20 + (ge (seg b 2 4)).toNat) 1016, c = 0
theorem pageB_iff (b : List Int) (n : Int) : pageB b n = true ↔ IsPage b n := by
  unfold pageB
  simp only [Bool.and_eq_true, decide_eq_true_eq, List.all_eq_true]
  exact ⟨fun ⟨h1, h2, h3, h4, h5, h6, h7, h8, h9, h10⟩ => ⟨h1, h2, h3, h4, h5, h6, h7, h8, h9, h10⟩, fun ⟨h1, h2, h3, h4, h5, h6, h7, h8, h9, h10⟩ => ⟨h1, h2, h3, h4, h5, h6, h7, h8, h9, h10⟩⟩
def pgC (b : List Int) : List Int := seg b 20 (20 + (ge (seg b 2 4)).toNat)
def pgT (b : List Int) : Int := ge (seg b 8 16)
theorem rd_get (l : List Int) (i : Nat) (h : i < l.length) : rd l (i : Int) = l[i] := rd_lt l i h
theorem all_zero {l : List Int} (h : ∀ c ∈ l, c = 0) : l = List.replicate l.length 0 := List.eq_replicate_iff.2 ⟨rfl, h⟩
theorem take_two {b : List Int} (h : 2 ≤ b.length) : b.take 2 = [rd b 0, rd b 1] := by
  rcases b with _ | ⟨x, _ | ⟨y, t⟩⟩
  · simp at h
  · simp at h
  · simp [rd]
/-- A page is the one that would be written so. -/
theorem page_pack {b : List Int} {n : Int} (hb : Bytes b) (h : IsPage b n) : packL (rd b 0) n (pgT b) (pgC b) = b := by
  have hl := h.len
  have hm := ge_range (seg_bytes hb 2 4)
  have hml : (pgC b).length = (ge (seg b 2 4)).toNat := by unfold pgC; rw [seg_len (by have := h.m; omega)]; omega
  have hm2 := h.m
  generalize hM : (ge (seg b 2 4)).toNat = M at *
  have hMe : ((M : Nat) : Int) = ge (seg b 2 4) := by omega
  have e2 : be 2 (((pgC b).length : Nat) : Int) = seg b 2 4 := by
    rw [hml, hMe]
    have := be_ge (seg_bytes hb 2 4)
    rwa [seg_len (by omega)] at this
  have e4 : be 4 n = seg b 4 8 := by
    rw [← h.at_]
    have := be_ge (seg_bytes hb 4 8)
    rwa [seg_len (by omega)] at this
  have e8 : be 8 (pgT b) = seg b 8 16 := by
    unfold pgT
    have := be_ge (seg_bytes hb 8 16)
    rwa [seg_len (by omega)] at this
  have e9 : be 8 (pgT b) = seg b 1016 1024 := by
    unfold pgT
    rw [← h.turn]
    have := be_ge (seg_bytes hb 1016 1024)
    rwa [seg_len (by omega)] at this
  have e0 : ([rd b 0, 0] : List Int) = b.take 2 := by
    rw [take_two (by omega), h.z]
  have eh : hdL (rd b 0) n (pgT b) (pgC b).length = b.take 16 := by
    unfold hdL
    rw [e2, e4, e8, e0, seg_cut b (by omega), seg_cut b (by omega), seg_cut b (by omega)]
  have er : rsL (pgT b) (pgC b) = b.drop 20 := by
    unfold rsL
    have hz : List.replicate (996 - (pgC b).length) (0 : Int) = seg b (20 + M) 1016 := by
      have h3 := all_zero h.rest
      rw [hM] at h3
      rw [h3, seg_len (by omega), hml, show 996 - M = 1016 - (20 + M) by omega]
    rw [hz, e9]
    unfold pgC
    rw [hM]
    have h1 := seg_cut (b.drop 20) (a := M) (b := 996) (by omega)
    have h2 := seg_cut (b.drop 20) (a := 996) (b := 1004) (by omega)
    have f1 : seg b 20 (20 + M) = (b.drop 20).take M := by unfold seg; congr 1; omega
    have f2 : seg b (20 + M) 1016 = seg (b.drop 20) M 996 := by unfold seg; rw [List.drop_drop]; congr 1; omega
    have f3 : seg b 1016 1024 = seg (b.drop 20) 996 1004 := by unfold seg; rw [List.drop_drop]
    rw [f1, f2, f3, h1, h2]
    exact List.take_of_length_le (by rw [List.length_drop]; omega)
  unfold packL
  rw [eh, er, ← h.sum]
  have e16 : be 4 (ge (seg b 16 20)) = seg b 16 20 := by
    have := be_ge (seg_bytes hb 16 20)
    rwa [seg_len (by omega)] at this
  rw [e16, seg_cut b (by omega), List.take_append_drop]
/-- What is written is a page. -/
structure PkOk (k n t : Int) (c : List Int) : Prop where
  k0 : 0 < k
  k1 : k ≤ 255
  n0 : 0 ≤ n
  n1 : n < 16384
  t0 : 0 ≤ t
  t1 : t < 18446744073709551616
  m : c.length ≤ 996
  c : Bytes c
theorem pack_segs {k n t : Int} {c : List Int} (h : c.length ≤ 996) :
    seg (packL k n t c) 2 4 = be 2 (c.length : Nat) ∧ seg (packL k n t c) 4 8 = be 4 n ∧ seg (packL k n t c) 8 16 = be 8 t ∧
    seg (packL k n t c) 16 20 = be 4 (sumV (hdL k n t c.length ++ rsL t c)) ∧ seg (packL k n t c) 20 (20 + c.length) = c ∧ seg (packL k n t c) (20 + c.length) 1016 = List.replicate (996 - c.length) 0 ∧ seg (packL k n t c) 1016 1024 = be 8 t ∧ (packL k n t c).take 16 ++ (packL k n t c).drop 20 = hdL k n t c.length ++ rsL t c := by
  have hS := be_len 4 (sumV (hdL k n t c.length ++ rsL t c))
  have hh := hdL_len k n t c.length
  have e : packL k n t c = [k, 0] ++ be 2 (c.length : Nat) ++ be 4 n ++ be 8 t ++ be 4 (sumV (hdL k n t c.length ++ rsL t c)) ++ c ++ List.replicate (996 - c.length) 0 ++ be 8 t := by
    simp only [packL, rsL]
    rw [show hdL k n t c.length = [k, 0] ++ be 2 (c.length : Nat) ++ be 4 n ++ be 8 t from rfl]
    simp only [List.append_assoc]
  have l2 := be_len 2 ((c.length : Nat) : Int)
  have l4 := be_len 4 n
  have l8 := be_len 8 t
  generalize be 4 (sumV (hdL k n t c.length ++ rsL t c)) = S at *
  have hP : packL k n t c = hdL k n t c.length ++ S ++ rsL t c := by
    rw [e]
    simp only [hdL, rsL, List.append_assoc]
  refine ⟨?_, ?_, ?_, ?_, ?_, ?_, ?_, ?_⟩
  · rw [e]; simp only [List.append_assoc]
    rw [← List.append_assoc [k, 0]]
    exact seg_mid [k, 0] _ _ rfl (by rw [l2])
  · rw [e]
    have := seg_mid ([k, 0] ++ be 2 (c.length : Nat)) (be 4 n) (be 8 t ++ S ++ c ++ List.replicate (996 - c.length) 0 ++ be 8 t) (a := 4) (b := 8) (by simp [l2]) (by rw [l4])
    simpa only [List.append_assoc] using this
  · rw [e]
    have := seg_mid ([k, 0] ++ be 2 (c.length : Nat) ++ be 4 n) (be 8 t) (S ++ c ++ List.replicate (996 - c.length) 0 ++ be 8 t) (a := 8) (b := 16) (by simp [l2, l4]) (by rw [l8])
    simpa only [List.append_assoc] using this
  · rw [hP]
    exact seg_mid _ _ _ hh (by rw [hS])
  · rw [e]
    have := seg_mid ([k, 0] ++ be 2 (c.length : Nat) ++ be 4 n ++ be 8 t ++ S) c (List.replicate (996 - c.length) 0 ++ be 8 t) (a := 20) (b := 20 + c.length) (by simp [l2, l4, l8, hS]) rfl
    simpa only [List.append_assoc] using this
  · rw [e]
    exact seg_mid ([k, 0] ++ be 2 (c.length : Nat) ++ be 4 n ++ be 8 t ++ S ++ c) (List.replicate (996 - c.length) 0) (be 8 t) (by simp [l2, l4, l8, hS]; omega) (by simp; omega)
  · rw [e]
    have := seg_mid ([k, 0] ++ be 2 (c.length : Nat) ++ be 4 n ++ be 8 t ++ S ++ c ++ List.replicate (996 - c.length) 0) (be 8 t) [] (a := 1016) (b := 1024) (by simp [l2, l4, l8, hS]; omega) (by rw [l8])
    rwa [List.append_nil] at this
  · rw [hP]
    have h1 : (hdL k n t c.length ++ S ++ rsL t c).take 16 = hdL k n t c.length := by rw [List.append_assoc]; exact List.take_left' hh
    have h2 : (hdL k n t c.length ++ S ++ rsL t c).drop 20 = rsL t c := List.drop_left' (by rw [List.length_append, hh, hS])
    rw [h1, h2]
theorem rd_cons0 (x : Int) (l : List Int) : rd (x :: l) 0 = x := by simp [rd]
theorem rd_cons1 (x y : Int) (l : List Int) : rd (x :: y :: l) 1 = y := by simp [rd]
theorem pack_page {k n t : Int} {c : List Int} (h : PkOk k n t c) : IsPage (packL k n t c) n ∧ pgT (packL k n t c) = t ∧ pgC (packL k n t c) = c ∧ rd (packL k n t c) 0 = k := by
  obtain ⟨s1, s2, s3, s4, s5, s6, s7, s8⟩ := pack_segs (k := k) (n := n) (t := t) h.m
  have g2 : ge (be 2 ((c.length : Nat) : Int)) = (c.length : Nat) := ge_be 2 _ (by omega) (by have := h.m; omega)
  have g4 : ge (be 4 n) = n := ge_be 4 _ h.n0 (by have := h.n1; omega)
  have g8 : ge (be 8 t) = t := ge_be 8 _ h.t0 (by have := h.t1; omega)
  have gs := sumV_range (hdL k n t c.length ++ rsL t c)
  have gS : ge (be 4 (sumV (hdL k n t c.length ++ rsL t c))) = sumV (hdL k n t c.length ++ rsL t c) := ge_be 4 _ gs.1 (by have := gs.2; omega)
  have hk : rd (packL k n t c) 0 = k := by unfold packL hdL; simp [rd]
  refine ⟨⟨packL_len h.m, h.n0, h.n1, by rw [hk]; have := h.k0; omega, by unfold packL hdL; simp [rd], by rw [s1, g2]; have := h.m; omega, by rw [s2, g4], by rw [s7, s3], by rw [s4, gS, s8], fun x hx => ?_⟩, by unfold pgT; rw [s3, g8], ?_, hk⟩
  · rw [s1, g2, Int.toNat_natCast, s6] at hx
    exact List.eq_of_mem_replicate hx
  · unfold pgC
    rw [s1, g2, Int.toNat_natCast, s5]
/-- A page that is turned in one byte is none. -/
theorem turned_no {b : List Int} {n : Int} (hb : Bytes b) (h : IsPage b n) {p : Nat} (hp : p < 1024) {u : Int} (hu : 0 ≤ u ∧ u ≤ 255) (hne : u ≠ rd b (p : Int)) (m : Int) : ¬ IsPage (b.set p u) m := by
  intro h2
  have hl := h.len
  have hb2 : Bytes (b.set p u) := fun x hx => by
    rcases List.mem_or_eq_of_mem_set hx with h4 | h4
    · exact hb x h4
    · rw [h4]; exact hu
  have hs1 := h.sum
  have hs2 := h2.sum
  have hc := rd_lt b p (by omega)
  rw [hc] at hne
  have hcb := hb _ (List.getElem_mem (show p < b.length by omega))
  by_cases h16 : p < 16
  · have e1 : seg (b.set p u) 16 20 = seg b 16 20 := by unfold seg; rw [List.drop_set_of_lt (by omega)]
    have e2 : (b.set p u).drop 20 = b.drop 20 := List.drop_set_of_lt (by omega)
    have e3 : (b.set p u).take 16 = (b.take 16).set p u := by rw [List.take_set]
    rw [e1, e2, e3, hs1] at hs2
    have hf : (sumS (b.take 16 ++ b.drop 20)).1 = (sumS ((b.take 16).set p u ++ b.drop 20)).1 := by
      have a1 := sumS_range (b.take 16 ++ b.drop 20)
      have a2 := sumS_range ((b.take 16).set p u ++ b.drop 20)
      unfold sumV at hs2
      omega
    rw [sumS_fst, sumS_fst, List.sum_append, List.sum_append] at hf
    have hset := sum_set (b.take 16) p u (by rw [List.length_take]; omega)
    rw [List.getElem_take] at hset
    omega
  · by_cases h20 : p < 20
    · have e2 : (b.set p u).drop 20 = b.drop 20 := List.drop_set_of_lt (by omega)
      have e3 : (b.set p u).take 16 = b.take 16 := List.take_set_of_le (by omega)
      rw [e2, e3, ← hs1] at hs2
      have i1 := be_ge (seg_bytes hb 16 20)
      have i2 := be_ge (seg_bytes hb2 16 20)
      rw [seg_len (by omega)] at i1
      rw [seg_len (by rw [List.length_set]; omega), hs2, i1] at i2
      have hg := congrArg (fun l => l[p - 16]?) i2
      simp only [seg] at hg
      rw [List.getElem?_take, List.getElem?_take, if_pos (by omega), List.getElem?_drop, List.getElem?_drop, show 16 + (p - 16) = p by omega, List.getElem?_set_self (by omega), List.getElem?_eq_getElem (by omega), if_pos (by omega)] at hg
      injection hg with hg
      exact hne hg.symm
    · have e1 : seg (b.set p u) 16 20 = seg b 16 20 := by
        unfold seg
        apply List.ext_getElem?
        intro i
        rw [List.getElem?_take, List.getElem?_take]
        split
        · rw [List.getElem?_drop, List.getElem?_drop, List.getElem?_set_ne (by omega)]
        · rfl
      have e2 : (b.set p u).drop 20 = (b.drop 20).set (p - 20) u := by rw [List.drop_set, if_neg (by omega)]
      have e3 : (b.set p u).take 16 = b.take 16 := List.take_set_of_le (by omega)
      rw [e1, e2, e3, hs1] at hs2
      have hf : (sumS (b.take 16 ++ b.drop 20)).1 = (sumS (b.take 16 ++ (b.drop 20).set (p - 20) u)).1 := by
        have a1 := sumS_range (b.take 16 ++ b.drop 20)
        have a2 := sumS_range (b.take 16 ++ (b.drop 20).set (p - 20) u)
        unfold sumV at hs2
        omega
      rw [sumS_fst, sumS_fst, List.sum_append, List.sum_append] at hf
      have hset := sum_set (b.drop 20) (p - 20) u (by rw [List.length_drop]; omega)
      rw [List.getElem_drop] at hset
      have e9 : b[20 + (p - 20)]'(by omega) = b[p]'(by omega) := by congr 1; omega
      rw [e9] at hset
      omega
end Go.Proofs.Ytlmdghafiadgjaa
