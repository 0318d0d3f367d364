/- The law BitsJoins. -/
import Derived.Test.YtijccfblenmfcaaBitsLawB
namespace Go.Proofs.Ytijccfblenmfcaa
open Go.RowKit Go.Shelf Go.Proofs.YtijccfblenmfcaaW.PrintWords

theorem encL_join (f : Nat) : ∀ (a b : List Int), a.length ≤ f → a.length % 3 = 0 → encL 0 (a ++ b).length (a ++ b) 0 = encL 0 a.length a 0 ++ encL 0 b.length b 0 := by
  induction f with
  | zero =>
    intro a b hf h3
    obtain rfl : a = [] := List.eq_nil_of_length_eq_zero (by omega)
    simp [encL]
  | succ f ih =>
    intro a b hf h3
    rcases a with _ | ⟨x, _ | ⟨y, _ | ⟨z, t⟩⟩⟩
    · simp [encL]
    · simp at h3
    · simp at h3
    · simp only [List.length_cons] at hf h3
      have e1 : ((x :: y :: z :: t) ++ b) = x :: y :: z :: (t ++ b) := rfl
      have q1 := encL_0 ((t ++ b).length + 2) (x :: y :: z :: (t ++ b)) 0 (by simp)
      have q2 := encL_0 (t.length + 2) (x :: y :: z :: t) 0 (by simp)
      rw [e1, show List.length (x :: y :: z :: (t ++ b)) = (t ++ b).length + 2 + 1 from rfl, show List.length (x :: y :: z :: t) = t.length + 2 + 1 from rfl, q1, q2]
      rw [show List.drop 3 (x :: y :: z :: (t ++ b)) = t ++ b from rfl, show List.drop 3 (x :: y :: z :: t) = t from rfl]
      rw [encL_fuel _ (t ++ b).length (t ++ b) _ 0 (by omega) (Nat.le_refl _), encL_fuel _ t.length t _ 0 (by omega) (Nat.le_refl _), ih t b (by omega) (by omega)]
      have v : v3 (x :: y :: z :: (t ++ b)) = v3 (x :: y :: z :: t) := rfl
      have m1 : min (List.length (x :: y :: z :: (t ++ b))) 3 = min (List.length (x :: y :: z :: t)) 3 := by simp only [List.length_cons]; omega
      rw [v, m1, List.append_assoc]
theorem sn_append (xs ys : List Int) : strOfNums xs ++ strOfNums ys = strOfNums (xs ++ ys) := by
  apply WideShapes.bytes_inj
  simp [strOfNums]
theorem sn_size (xs : List Int) : (strOfNums xs).size = xs.length := by simp [strOfNums, ByteArray.size]
set_option maxRecDepth 100000 in
set_option maxHeartbeats 1000000 in
theorem copy_any (A : Option Addr) (a : List Int) (c : Nat) (w : World) (hr : ReadsInt w .u8 A a.length a) (hl : a.length ≤ 140737488351232) :
    Calls Try.prog 14 #[.slice A a.length c] w fun e w' => ∃ v, e = .returned v ∧ ORow .u8 5 w' w.heap.size v a ∧ Below w.heap.size w w' := by
  have HR := Lib.hid hr
  clear hr
  go_enter Try.func14, Try.ntmps14
  go_wp2_with (first
    | (at_builtin; refine print_append_row (w0 := w) w.heap.size rfl (.tmp 4) (.tmp 5) 23 5 .u8 1 rfl Try.underlying23 infoU8 (by decide) _ [] a _ _ _ rfl rfl (ORow.nil _ _ _ _) HR.out (Below.refl _ _) (Nat.le_refl _) (by simp; omega) ?_; intro v1 w1 hO1 hB1 _ _; have HO1 := Lib.hid hO1; have HB1 := Lib.hid hB1; clear hO1 hB1))
  go_ret
  exact ⟨_, rfl, HO1.out, HB1.out⟩
set_option maxRecDepth 100000 in
set_option maxHeartbeats 1000000 in
theorem joins_early (A B : Option Addr) (a b : List Int) (c d : Nat) (w : World) (ha : a.length ≤ 9223372036854775807) (hb : b.length ≤ 9223372036854775807) (h : 2000 < a.length ∨ 2000 < b.length) :
    Calls Try.prog 7 #[.slice A a.length c, .slice B b.length d] w fun e w' => e = .returned (.bool true) ∧ Below w.heap.size w w' := by
  by_cases h1 : 2000 < a.length
  · go_enter Try.func7, Try.ntmps7
    go_wp2_with (first | (go_at_call 9; ((with_reducible refine (alive_any _).mono ?_); rintro e w1 ⟨rfl, hB1⟩; have HB1 := Lib.hid hB1; clear hB1)))
    go_ret
    exact ⟨rfl, HB1.out⟩
  · have h2 : 2000 < b.length := by omega
    go_enter Try.func7, Try.ntmps7
    go_wp2_with (first | (go_at_call 9; ((with_reducible refine (alive_any _).mono ?_); rintro e w1 ⟨rfl, hB1⟩; have HB1 := Lib.hid hB1; clear hB1)))
    go_ret
    exact ⟨rfl, HB1.out⟩
theorem fits_0 (n : Nat) (h : n ≤ 1048576) : fitsV (n : Int) 0 = 0 := by unfold fitsV; rw [if_neg (by omega), if_neg (by omega)]
set_option maxRecDepth 100000 in
set_option maxHeartbeats 1000000 in
theorem joins_late (A B : Option Addr) (a b : List Int) (c d : Nat) (w : World) (ha : ReadsInt w .u8 A a.length a) (hb : ReadsInt w .u8 B b.length b) (hba : Bytes a) (hbb : Bytes b) (hac : a.length ≤ c) (hbc : b.length ≤ d) (h1 : a.length ≤ 2000) (h2 : b.length ≤ 2000) :
    Calls Try.prog 7 #[.slice A a.length c, .slice B b.length d] w fun e w' => e = .returned (.bool true) ∧ Below w.heap.size w w' := by
  obtain ⟨i0, hi0, _, hsz, _⟩ := info_parts infoU8
  obtain ⟨hcutT, hAT, hCT⟩ := print_take_of (P := Try.prog) (Value.int .u8) (0 : Int) 23 5 .i64 Try.underlying23 hi0 hsz A c a ((a.length : Int) - (a.length : Int) % 3) (by omega) (by omega) hac
  have hj : ((a.length : Int) - (a.length : Int) % 3).toNat = a.length - a.length % 3 := by omega
  rw [hj] at hcutT hAT hCT
  have HRT : Hid (ReadsInt w .u8 A (a.take (a.length - a.length % 3)).length (a.take (a.length - a.length % 3))) := Lib.hid (hAT _ ha)
  have hlt : (a.take (a.length - a.length % 3)).length ≤ 2000 := by rw [List.length_take]; omega
  have hl3 : (a.take (a.length - a.length % 3)).length % 3 = 0 := by rw [List.length_take]; omega
  have hbt : Bytes (a.take (a.length - a.length % 3)) := hba.take _
  clear hAT hi0 hsz hj
  generalize a.take (a.length - a.length % 3) = p at *
  have HRB := Lib.hid hb
  have hbq : Bytes (p ++ b) := hbt.append hbb
  have hjoin := encL_join p.length p b (Nat.le_refl _) hl3
  have HQL : Hid ((p ++ b).length ≤ 4000) := Lib.hid (by rw [List.length_append]; omega)
  have HE1 := Lib.hid (encode_ok A p c 0 w HRT.out hbt hCT (fits_0 _ (by omega)) ⟨by decide, by decide⟩ (by omega))
  have HE2 := Lib.hid (fun W (h : Below w.heap.size w W) => encode_ok B b d 0 W (HRB.out.below h) hbb hbc (fits_0 _ (by omega)) ⟨by decide, by decide⟩ (by omega))
  have HCP := Lib.hid (fun W (h : Below w.heap.size w W) => copy_any A p c W (HRT.out.below h) (by omega))
  have HE3 := Lib.hid (fun A3 c3 W (h : ReadsInt W .u8 A3 (p ++ b).length (p ++ b)) (hc : (p ++ b).length ≤ c3) => encode_ok A3 (p ++ b) c3 0 W h hbq hc (fits_0 _ (by have := HQL.out; omega)) ⟨by decide, by decide⟩ (by have := HQL.out; omega))
  rw [hjoin, ← sn_append] at HE3
  have hs1 : (strOfNums (encL 0 p.length p 0)).size ≤ 12000 := by rw [sn_size]; have := encL_len 0 p.length p 0; omega
  have hs2 : (strOfNums (encL 0 b.length b 0)).size ≤ 12000 := by rw [sn_size]; have := encL_len 0 b.length b 0; omega
  clear hjoin hbq hbt hbb hba hl3 ha hb
  generalize strOfNums (encL 0 p.length p 0) = sp at *
  generalize strOfNums (encL 0 b.length b 0) = sb at *
  have HPB : Hid (p.length + b.length ≤ 140737488355328) := Lib.hid (by omega)
  go_enter Try.func7, Try.ntmps7
  go_wp2_with (first
    | (go_at_call 12; ((with_reducible refine HE1.out.mono ?_); rintro e w1 ⟨rfl, hB1⟩; have HB1 := Lib.hid hB1; have HE2s := Lib.hid (HE2.out _ hB1); clear hB1))
    | (go_at_call 12; ((with_reducible refine HE2s.out.mono ?_); rintro e w2 ⟨rfl, hB2⟩; have HB2 := Lib.hid (below_then HB1.out HB1.out.size hB2); have HCPs := Lib.hid (HCP.out _ HB2.out); clear hB2))
    | (go_at_call 14; ((with_reducible refine HCPs.out.mono ?_); rintro e w3 ⟨v3, rfl, hO3, hB3⟩; have HO3 := Lib.hid (hO3.lower HB2.out.size); have HB3 := Lib.hid (below_then HB2.out HB2.out.size hB3); have HRB3 := Lib.hid (HRB.out.below HB3.out); clear hO3 hB3))
    | (at_builtin; refine print_append_row (w0 := w) w.heap.size rfl (.tmp 41) (.tmp 42) 23 5 .u8 1 rfl Try.underlying23 infoU8 (by decide) _ p b _ _ _ rfl rfl HO3.out HRB3.out HB3.out HB3.out.size (by have := HPB.out; omega) ?_; intro v4 w4 hO4 hB4 _ _; have HO4 : Hid (ORow .u8 5 w4 w.heap.size v4 (p ++ b)) := Lib.hid hO4; have HB4 := Lib.hid hB4; clear hO4 hB4; obtain ⟨A4, c4, rfl, hc4, hr4⟩ := HO4.out.reads; have HE3s := Lib.hid (HE3.out A4 c4 w4 hr4 hc4); clear hc4 hr4; generalize (p ++ b).length = nq at *)
    | (go_at_call 12; ((with_reducible refine HE3s.out.mono ?_); rintro e w5 ⟨rfl, hB5⟩; have HB5 := Lib.hid (below_then HB4.out HB4.out.size hB5); clear hB5))
    | (go_at_call 9; ((with_reducible refine (alive_any _).mono ?_); rintro e w6 ⟨rfl, hB6⟩; have HB6 := Lib.hid (below_then HB5.out HB5.out.size hB6); clear hB6)))
  go_ret
  exact ⟨rfl, HB6.out⟩
theorem joins_law (A : Option Addr) (a : List Int) (c : Nat) (B : Option Addr) (b : List Int) (d : Nat) (w : World) (ha : ReadsInt w .u8 A a.length a) (wa : ∀ n ∈ a, (Lit.int .u8 n).wf = true) (hac : a.length ≤ c) (_ : a.length * 1 ≤ 140737488351232)
    (hb : ReadsInt w .u8 B b.length b) (wb : ∀ n ∈ b, (Lit.int .u8 n).wf = true) (hbc : b.length ≤ d) (_ : b.length * 1 ≤ 140737488351232) :
    Calls Try.prog 7 #[.slice A a.length c, .slice B b.length d] w fun e w' => e = .returned (.bool true) ∧ Below w.heap.size w w' := by
  by_cases h : 2000 < a.length ∨ 2000 < b.length
  · exact joins_early A B a b c d w ha.2.1 hb.2.1 h
  · exact joins_late A B a b c d w ha hb (wf_u8 wa) (wf_u8 wb) hac hbc (by omega) (by omega)
end Go.Proofs.Ytijccfblenmfcaa
