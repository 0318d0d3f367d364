/- The law QuotedLines. -/
import Derived.Test.YtdebimpjbcihhaaQLawB
namespace Go.Proofs.Ytdebimpjbcihhaa
open Go.RowKit Go.Shelf Go.Proofs.YtdebimpjbcihhaaW.PrintWords

/-- How the law looks at lines. -/
def linQ : Nat → List Int → Int → Bool
  | 0, _, _ => true
  | _ + 1, [], _ => true
  | f + 1, x :: t, n => if pr (x :: t) = true then linQ f (t.drop 1) 0 else decide (n + 1 ≤ 76 ∧ x ≤ 126 ∧ (32 ≤ x ∨ x = 9) ∧ (isBl x = true → ends t = false)) && linQ f t (n + 1)
theorem lin_pair (g : Nat) (r : List Int) (n : Int) : linQ (g + 1) (13 :: 10 :: r) n = linQ g r 0 := by
  rw [linQ, if_pos (pr_pair r)]; rfl
theorem lin_char (g : Nat) (x : Int) (r : List Int) (n : Int) (hn : n + 1 ≤ 76) (hx : x ≤ 126) (h2 : 32 ≤ x ∨ x = 9) (hb : isBl x = true → ends r = false) : linQ (g + 1) (x :: r) n = linQ g r (n + 1) := by
  rw [linQ, if_neg (by rw [pr_cons x r (by omega)]; decide), decide_eq_true ⟨hn, hx, h2, hb⟩, Bool.true_and]
theorem lin_sg (x : Int) (t r : List Int) (g : Nat) (n : Int) (h0 : 0 ≤ x) (h1 : x ≤ 255) (hr : ends t = false → ends r = false) (hn : n + ((sg x t).length : Int) ≤ 75) (hg : (sg x t ++ r).length ≤ g) :
    ∃ k, k + (sg x t).length = g ∧ linQ g (sg x t ++ r) n = linQ k r (n + ((sg x t).length : Int)) := by
  unfold sg at hn hg ⊢
  by_cases h : printable x ∨ ((x = 32 ∨ x = 9) ∧ ends t = false)
  · rw [if_pos h] at hn hg ⊢
    simp only [List.length_cons, List.length_nil, List.cons_append, List.nil_append] at hn hg ⊢
    obtain ⟨g, rfl⟩ : ∃ k, g = k + 1 := ⟨g - 1, by omega⟩
    have hx : x ≤ 126 ∧ (32 ≤ x ∨ x = 9) := by
      rcases h with h | h
      · unfold printable at h; omega
      · omega
    refine ⟨g, rfl, lin_char g x r n (by omega) hx.1 hx.2 ?_⟩
    intro hb
    rcases h with h | h
    · rw [bl_not x h] at hb; cases hb
    · exact hr h.2
  · rw [if_neg h] at hn hg ⊢
    have a1 := hexD_range (x / 16) (by omega) (by omega)
    have a2 := hexD_range (x % 16) (by omega) (by omega)
    simp only [digB, List.length_cons, List.length_nil, List.cons_append, List.nil_append] at hn hg ⊢
    obtain ⟨g, rfl⟩ : ∃ k, g = k + 3 := ⟨g - 3, by omega⟩
    refine ⟨g, rfl, ?_⟩
    have nb : ∀ y : Int, 33 ≤ y → isBl y = true → ∀ l : List Int, ends l = false := fun y hy hb => by
      simp only [isBl, decide_eq_true_eq] at hb; omega
    rw [lin_char (g + 2) 61 _ n (by omega) (by omega) (by omega) (fun hb => nb _ (by omega) hb _), lin_char (g + 1) _ _ _ (by omega) (by omega) (by omega) (fun hb => nb _ (by omega) hb _), lin_char g _ _ _ (by omega) (by omega) (by omega) (fun hb => nb _ (by omega) hb _)]
    congr 1
    omega
theorem lin_enc (txt : Bool) (f : Nat) : ∀ (t : List Int) (line : Int) (g : Nat), Bytes t → t.length ≤ f → 0 ≤ line → line ≤ 75 → (encP txt f t line).length ≤ g → linQ g (encP txt f t line) line = true := by
  induction f with
  | zero =>
    intro t line g hb hf _ _ hg
    cases g <;> simp [encP, linQ]
  | succ f ih =>
    intro t line g hb hf hl0 hl1 hg
    rcases t with _ | ⟨x, t⟩
    · cases g <;> simp [encP, linQ]
    · have hx := hb x List.mem_cons_self
      have hbt : Bytes t := fun y hy => hb y (List.mem_cons_of_mem _ hy)
      simp only [List.length_cons] at hf
      rw [encP] at hg ⊢
      by_cases hp : (txt && pr (x :: t)) = true
      · rw [if_pos hp] at hg ⊢
        simp only [List.cons_append, List.nil_append, List.length_cons] at hg ⊢
        obtain ⟨g, rfl⟩ : ∃ k, g = k + 1 := ⟨g - 1, by omega⟩
        rw [lin_pair]
        exact ih _ 0 g (hbt.drop 1) (by rw [List.length_drop]; omega) (by omega) (by omega) (by omega)
      · rw [if_neg hp] at hg ⊢
        have hsl : 1 ≤ (sg x t).length ∧ (sg x t).length ≤ 3 := by unfold sg; split <;> simp [digB]
        by_cases hbr : 75 < line + ((sg x t).length : Int)
        · rw [if_pos hbr, if_pos hbr] at hg ⊢
          rw [List.append_assoc] at hg ⊢
          rw [List.length_append] at hg
          simp only [List.length_cons, List.length_nil] at hg
          obtain ⟨g, rfl⟩ : ∃ k, g = k + 2 := ⟨g - 2, by omega⟩
          have nb : isBl 61 = true → ∀ l : List Int, ends l = false := fun hb => by
            simp [isBl] at hb
          simp only [List.cons_append, List.nil_append]
          rw [lin_char (g + 1) 61 _ line (by omega) (by omega) (by omega) (fun hb => nb hb _), lin_pair]
          obtain ⟨k, hk, he⟩ := lin_sg x t (encP txt f t (0 + ((sg x t).length : Int))) g 0 hx.1 hx.2 (fun h => (tr_enc txt f t _ (by omega) h).2) (by omega) (by omega)
          rw [he]
          rw [List.length_append] at hg
          exact ih t _ k hbt (by omega) (by omega) (by omega) (by omega)
        · rw [if_neg hbr, if_neg hbr] at hg ⊢
          rw [List.nil_append] at hg ⊢
          obtain ⟨k, hk, he⟩ := lin_sg x t (encP txt f t (line + ((sg x t).length : Int))) g line hx.1 hx.2 (fun h => (tr_enc txt f t _ (by omega) h).2) (by omega) hg
          rw [he]
          rw [List.length_append] at hg
          exact ih t _ k hbt (by omega) (by omega) (by omega) (by omega)
theorem lin_at (xs : List Int) (f i : Nat) (n : Int) (hi : i < xs.length) (h : linQ (f + 1) (xs.drop i) n = true) :
    (prs xs (i : Int) = true ∧ rd xs (i : Int) = 13 ∧ i + 2 ≤ xs.length ∧ linQ f (xs.drop (i + 2)) 0 = true) ∨
    (prs xs (i : Int) = false ∧ n + 1 ≤ 76 ∧ rd xs (i : Int) ≤ 126 ∧ (32 ≤ rd xs (i : Int) ∨ rd xs (i : Int) = 9) ∧ ((rd xs (i : Int) = 32 ∨ rd xs (i : Int) = 9) → i + 1 < xs.length ∧ prs xs ((i : Int) + 1) = false) ∧ linQ f (xs.drop (i + 1)) (n + 1) = true) := by
  have hp := prs_drop xs i
  rw [drop_cons xs i hi] at h hp
  rw [linQ] at h
  by_cases h1 : pr (rd xs (i : Int) :: xs.drop (i + 1)) = true
  · left
    rw [if_pos h1, List.drop_drop] at h
    rw [h1] at hp
    refine ⟨hp, ?_, ?_, h⟩
    · simp only [prs, decide_eq_true_eq] at hp; exact hp.1
    · simp only [prs, decide_eq_true_eq] at hp; omega
  · right
    rw [if_neg h1, Bool.and_eq_true, decide_eq_true_eq] at h
    obtain ⟨⟨a, b, c, d⟩, e⟩ := h
    refine ⟨by rw [hp]; simpa using h1, a, b, c, fun hb => ?_, e⟩
    have he := d (decide_eq_true hb)
    rw [← ends_drop xs (i + 1) (by omega)] at he
    simp only [endsV, Bool.or_eq_false_iff, decide_eq_false_iff_not] at he
    exact ⟨by omega, by rw [show ((i : Int) + 1) = ((i + 1 : Nat) : Int) by omega]; exact he.2⟩
set_option maxRecDepth 100000 in
set_option maxHeartbeats 1000000 in
theorem lines_early (A : Option Addr) (l : List Int) (c : Nat) (t : Bool) (w : World) (hl : l.length ≤ 9223372036854775807) (h : 4000 < l.length) :
    Calls Try.prog 6 #[.slice A l.length c, .bool t] w fun e w' => e = .returned (.bool true) ∧ Below w.heap.size w w' := by
  go_enter Try.func6, Try.ntmps6
  go_wp2_with (first | (go_at_call 9; ((with_reducible refine (alive_any _).mono ?_); rintro e w1 ⟨rfl, hB1⟩; have HB1 := Lib.hid hB1; clear hB1)))
  go_ret
  exact ⟨rfl, HB1.out⟩
set_option maxRecDepth 100000 in
set_option maxHeartbeats 2000000 in
theorem lines_walk (A : Option Addr) (n0 c : Nat) (t : Bool) (s : ByteArray) (w : World) (h4 : n0 ≤ 4000) (hs : s.size ≤ 100000) (hlin : linQ s.size (bytesOf s) 0 = true)
    (HE : Hid (Calls Try.prog 10 #[.slice A n0 c, .bool t] w fun e w' => e = .returned (.tuple #[.string s, .int .i64 0]) ∧ Below w.heap.size w w')) :
    Calls Try.prog 6 #[.slice A n0 c, .bool t] w fun e w' => e = .returned (.bool true) ∧ Below w.heap.size w w' := by
  have HL : Hid ((bytesOf s).length = s.size) := Lib.hid (bytesOf_length s)
  have HLIN := Lib.hid hlin
  have HBY := Lib.hid (bytesOf_bytes s)
  have kb := fun W => print_bytes (P := Try.prog) 9 22 5 Try.underlying9 Try.underlying22 Try.underlying5 s W
  have HRB := Lib.hid (fun W => bytes_reads W 5 s (by omega))
  have HWB := Lib.hid (fun W (h : Below w.heap.size w W) => bytes_below h h.size 5 s)
  have HCAP := Lib.hid (fun W => grownCap_ge W s.size 0 5)
  clear hlin
  go_enter Try.func6, Try.ntmps6
  go_wp2_with (first
    | (go_at_call 10; ((with_reducible refine HE.out.mono ?_); rintro e w1 ⟨rfl, hB1⟩; have HB1 := Lib.hid hB1; clear hB1)))
  clear kb
  have HR1 := Lib.hid (HRB.out w1)
  have HW1 := Lib.hid (HWB.out w1 HB1.out)
  have HC1 := Lib.hid (HCAP.out w1)
  clear HRB HWB HCAP HE
  generalize grownCap w1 s.size 0 5 = cap at *
  generalize Lib.bytesWorld w1 5 s = wb at *
  generalize w1.heap.size = bb at *
  generalize bytesOf s = l at *
  go_loopw [7, 9] (fun s7 s9 wr => ∃ (n : Int) (i f : Nat), 0 ≤ n ∧ n ≤ 76 ∧ i ≤ s.size ∧ s7 = .int .i64 n ∧ s9 = .int .i64 i ∧ Hid (Below wb.heap.size wb wr) ∧ Hid (linQ f (l.drop i) n = true) ∧ Hid (s.size - i ≤ f)) (fun _ s9 _ => s.size - (intOf s9).toNat)
  case atStart => exact ⟨0, 0, s.size, Int.le_refl _, by omega, Nat.zero_le _, rfl, rfl, Lib.hid (Below.refl _ _), Lib.hid (by simpa using HLIN.out), Lib.hid (by omega)⟩
  case round =>
    obtain ⟨n, i, f, hn0, hn1, hi, rfl, rfl, HW, HLI, Hf⟩ := hrel
    by_cases hlt : i < s.size
    · obtain ⟨f, rfl⟩ : ∃ g, f = g + 1 := ⟨f - 1, by have := Hf.out; omega⟩
      have HRW := Lib.hid (HR1.out.below HW.out)
      have hcell : wr.cell? ⟨bb, i, none⟩ = some (.int .u8 (rd l (i : Int))) := by
        obtain ⟨ad, he, hc⟩ := HRW.out.at_ (i : Int) (by omega) (by omega)
        cases he; rw [Int.toNat_natCast] at hc; rwa [show (⟨bb, 0, none⟩ : Addr).add _ = ⟨bb, _, none⟩ from add_at bb _] at hc
      have HPR := Lib.hid (fun (j : Int) (W : World) (h : Below wr.heap.size wr W) (h0 : 0 ≤ j) (h1 : j ≤ 9000000000000000000) => rpair_any (some ⟨bb, 0, none⟩) cap l j W (by have h9 := HRW.out.below h; rw [← HL.out] at h9; exact h9) (by rw [HL.out]; exact HC1.out) h0 h1 (by rw [HL.out]; omega))
      rw [HL.out] at HPR
      rcases lin_at l f i n (by rw [HL.out]; exact hlt) HLI.out with ⟨hp, h13, hi2, hnext⟩ | ⟨hp, hn, hx, hy, hb, hnext⟩
      · have HN := Lib.hid hnext
        have HP := Lib.hid (HPR.out (i : Int) wr (Below.refl _ _) (by omega) (by omega))
        rw [hp] at HP
        rw [h13] at hcell
        rw [HL.out] at hi2
        clear hp h13 hnext
        go_wp2_with (first
          | (go_at_call 16; ((with_reducible refine HP.out.mono ?_); rintro e w3 ⟨rfl, hD3⟩; have HW3 := Lib.hid (below_then HW.out HW.out.size hD3.below); clear hD3)))
        go_roundw
        case rel => exact ⟨0, i + 2, f, Int.le_refl _, by omega, hi2, rfl, by go_num, HW3, HN, Lib.hid (by have := Hf.out; omega)⟩
        case measure => simp [intOf]; omega
      · have HN := Lib.hid hnext
        have HP := Lib.hid (HPR.out (i : Int) wr (Below.refl _ _) (by omega) (by omega))
        have HQ := Lib.hid (fun W (h : Below wr.heap.size wr W) => HPR.out ((i : Int) + 1) W h (by omega) (by omega))
        rw [hp] at HP
        clear hp hnext
        by_cases hbl : rd l (i : Int) = 32 ∨ rd l (i : Int) = 9
        · obtain ⟨hb1, hb2⟩ := hb hbl
          rw [hb2] at HQ
          rw [HL.out] at hb1
          have b1 : ((i : Int) + 1 == (s.size : Int)) = false := beq_eq_false_iff_ne.mpr (by omega)
          clear hb hb2
          rcases hbl with h | h
          all_goals
            rw [h] at hcell
            clear h hx hy
            go_wp2_with (first
              | (go_at_call 16; ((with_reducible refine HP.out.mono ?_); rintro e w3 ⟨rfl, hD3⟩; have HX3 := Lib.hid hD3.below; have HW3 := Lib.hid (below_then HW.out HW.out.size hD3.below); have hcell3 := pw_cell_below hD3.below hcell; clear hD3))
              | (go_at_call 16; ((with_reducible refine (HQ.out _ HX3.out).mono ?_); rintro e w4 ⟨rfl, hD4⟩; have HW4 := Lib.hid (below_then HW3.out HW3.out.size hD4.below); clear hD4)))
            go_roundw
            case rel => exact ⟨n + 1, i + 1, f, by omega, by omega, hlt, by go_num, by go_num, HW4, HN, Lib.hid (by have := Hf.out; omega)⟩
            case measure => simp [intOf]; omega
        · have b1 : (rd l (i : Int) == 32) = false := beq_eq_false_iff_ne.mpr (fun h => hbl (.inl h))
          have b2 : (rd l (i : Int) == 9) = false := beq_eq_false_iff_ne.mpr (fun h => hbl (.inr h))
          have hx2 : 33 ≤ rd l (i : Int) := by omega
          generalize rd l (i : Int) = x at *
          clear hb hbl hy HQ
          go_wp2_with (first
            | (go_at_call 16; ((with_reducible refine HP.out.mono ?_); rintro e w3 ⟨rfl, hD3⟩; have HX3 := Lib.hid hD3.below; have HW3 := Lib.hid (below_then HW.out HW.out.size hD3.below); have hcell3 := pw_cell_below hD3.below hcell; clear hD3)))
          go_roundw
          case rel => exact ⟨n + 1, i + 1, f, by omega, by omega, hlt, by go_num, by go_num, HW3, HN, Lib.hid (by have := Hf.out; omega)⟩
          case measure => simp [intOf]; omega
    · go_wp2_with (first
        | (go_at_call 9; ((with_reducible refine (alive_any _).mono ?_); rintro e w7 ⟨rfl, hB7⟩; have HB7 := Lib.hid (below_then HW1.out HW1.out.size (below_then HW.out HW.out.size hB7)); clear hB7)))
      go_ret
      exact ⟨rfl, HB7.out⟩
theorem lines_law (A : Option Addr) (l : List Int) (c : Nat) (t : Bool) (w : World) (hr : ReadsInt w .u8 A l.length l) (wl : ∀ n ∈ l, (Lit.int .u8 n).wf = true) (hc : l.length ≤ c) (_ : l.length * 1 ≤ 140737488351232) :
    Calls Try.prog 6 #[.slice A l.length c, .bool t] w fun e w' => e = .returned (.bool true) ∧ Below w.heap.size w w' := by
  by_cases h4 : 4000 < l.length
  · exact lines_early A l c t w hr.2.1 h4
  · have hby := wf_u8 wl
    have hlen := encQ_len t l
    have hsz : (strOfNums (encQ t l l.length 0 0)).size = (encQ t l l.length 0 0).length := sn_size _
    refine lines_walk A l.length c t _ w (by omega) (by omega) ?_ (Lib.hid (encode_ok A l c t w hr hby (by omega)))
    rw [bytesOf_str _ (encQ_bytes t l hby), hsz, enc_drop, List.drop_zero]
    exact lin_enc t l.length l 0 _ hby (Nat.le_refl _) (by omega) (by omega) (Nat.le_refl _)
end Go.Proofs.Ytdebimpjbcihhaa
