/- The package bits: Encode. -/
import Derived.Test.YtijccfblenmfcaaBits
import Derived.Laws.CopyOwn
namespace Go.Proofs.Ytijccfblenmfcaa
open Go.RowKit Go.Shelf Go.Proofs.YtijccfblenmfcaaW.PrintWords

/-- The sign at place i of a piece of n bytes whose number is v. -/
def q4 (n : Nat) (v : Int) (i : Nat) : Int := if i ≤ n then sgn (v / 2 ^ (18 - 6 * i) % 64) else 61
def quad (n : Nat) (v : Int) : List Int := [q4 n v 0, q4 n v 1, q4 n v 2, q4 n v 3]
def v3 (l : List Int) : Int := rd l 0 * 65536 + rd l 1 * 256 + rd l 2
/-- The signs of bytes, from a line's place on. -/
def encL (m : Int) : Nat → List Int → Int → List Int
  | 0, _, _ => []
  | f + 1, l, line => if l.length = 0 then [] else
    (if 0 < m ∧ line = m then [13, 10] else []) ++ quad (min l.length 3) (v3 l) ++ encL m f (l.drop 3) ((if 0 < m ∧ line = m then 0 else line) + 4)

theorem splice_three (l : List Int) : splice [.int .u8 0, .int .u8 0, .int .u8 0] 0 (nums .u8 (l.take 3)) = [.int .u8 (rd l 0), .int .u8 (rd l 1), .int .u8 (rd l 2)] := by
  rcases l with _ | ⟨a, _ | ⟨b, _ | ⟨c, t⟩⟩⟩ <;> simp [splice, nums, rd]
theorem reads_cells {w : World} {k : IntKind} {A : Option Addr} {n : Nat} {xs : List Int} (h : ReadsInt w k A n xs) (j : Nat) : 0 < (nums k (xs.take j)).length → ∃ ad, A = some ad ∧ ∀ (i : Nat) (v : Value), (nums k (xs.take j))[i]? = some v → w.cell? (ad.add i) = some v := by
  intro hp
  rw [nums_length, List.length_take] at hp
  obtain ⟨h1, h2, h3⟩ := h
  obtain ⟨ad, rfl, hc⟩ := h3 (by omega)
  refine ⟨ad, rfl, fun i v hv => ?_⟩
  have hi : i < (nums k (xs.take j)).length := by
    rcases Nat.lt_or_ge i (nums k (xs.take j)).length with h | h
    · exact h
    · rw [List.getElem?_eq_none h] at hv; cases hv
  rw [nums_length, List.length_take] at hi
  rw [hc i (by omega), ← hv]
  simp only [nums, List.getElem?_map, List.getElem?_take, if_pos (show i < j by omega), List.getD_eq_getElem?_getD]
  rw [List.getElem?_eq_getElem (by omega)]
  rfl
theorem drop_min (l : List Int) (n : Nat) (h : n = min l.length 3) : l.drop 3 = l.drop n := by
  by_cases h3 : 3 ≤ l.length
  · rw [h, Nat.min_eq_right h3]
  · rw [List.drop_eq_nil_of_le (by omega), List.drop_eq_nil_of_le (by omega)]
theorem wraps_u32 (n : Int) (h₀ : 0 ≤ n) (h₁ : n < 2 ^ 32) : IntKind.u32.wrap n = n := by rw [IntKind.wrap_u32]; omega
theorem or_u32 (i : Nat) (x y : Int) (h0 : 0 ≤ x) (h1 : x % 2 ^ i = 0) (h2 : x < 2 ^ 32) (h3 : 0 ≤ y) (h4 : y < 2 ^ i) (h5 : y < 2 ^ 32) : bits .or .u32 x y = x + y := bits_join .u32 32 (by decide) wraps_u32 i x y h0 h1 h2 h3 h4 h5
theorem and_u32 (x : Int) (h0 : 0 ≤ x) (h1 : x < 2 ^ 32) : bits .and .u32 x 63 = x % 64 := bits_mask .u32 32 (by decide) wraps_u32 6 (by decide) x h0 h1
theorem quad_snoc (n : Nat) (v : Int) (i : Nat) (h : i < 4) : (quad n v).take (i + 1) = (quad n v).take i ++ [q4 n v i] := by
  rcases (show i = 0 ∨ i = 1 ∨ i = 2 ∨ i = 3 by omega) with rfl | rfl | rfl | rfl <;> rfl
theorem q4_byte (n : Nat) (v : Int) (i : Nat) : 0 ≤ q4 n v i ∧ q4 n v i ≤ 255 := by
  unfold q4
  split
  · have h := sgn_facts (v / 2 ^ (18 - 6 * i) % 64) (Int.emod_nonneg _ (by decide)) (by have := Int.emod_lt_of_pos (v / 2 ^ (18 - 6 * i)) (show (0 : Int) < 64 by decide); omega)
    exact ⟨h.2.1, h.2.2.1⟩
  · omega
theorem sgn_at (v : Int) (h0 : 0 ≤ v) (h1 : v < 64) : ((signTab[v.toNat]'(show v.toNat < signTab.size by rw [show signTab.size = 64 from rfl]; omega)).toNat : Int) = sgn v := bt_at signTab v _
/-- A slice's length. -/
def lenOf : Value → Nat | .slice _ n _ => n | _ => 0

theorem Bytes.nums_one {l : List Int} {k : IntKind} : ∀ v ∈ nums k l, v.oneCell' = true := by
  intro v hv
  simp only [nums, List.mem_map] at hv
  obtain ⟨x, _, rfl⟩ := hv
  rfl

set_option maxRecDepth 100000 in
set_option maxHeartbeats 2000000 in
theorem encode_ok (A : Option Addr) (l0 : List Int) (c0 : Nat) (m : Int) (w : World) (hr : ReadsInt w .u8 A l0.length l0) (hby : Bytes l0) (hc : l0.length ≤ c0) (hf : fitsV l0.length m = 0) (hm : 0 ≤ m ∧ m ≤ 76) (hl : l0.length ≤ 1048576) :
    Calls Try.prog 12 #[.slice A l0.length c0, .int .i64 m] w fun e w' => e = .returned (.tuple #[.string (strOfNums (encL m l0.length l0 0)), .int .i64 0]) ∧ Below w.heap.size w w' := by
  obtain ⟨hm0, hm1⟩ := hm
  have HF := Lib.hid (fits_any (l0.length : Int) m w)
  rw [hf] at HF
  clear hf
  have HR0 := Lib.hid hr
  have HBY0 := Lib.hid hby
  have HC0 := Lib.hid hc
  clear hr hby hc
  go_enter Try.func12, Try.ntmps12
  go_wp2_with (first | (go_at_call 23; ((with_reducible refine HF.out.mono ?_); rintro e w' ⟨rfl, rfl⟩)))
  go_loopw [0, 8] (fun s0 s8 wr => ∃ (B : Option Addr) (l : List Int) (c f : Nat) (line : Int) (acc : List Int), s0 = .slice B l.length c ∧ s8 = .int .i64 line ∧ 0 ≤ line ∧ line ≤ 4194304 - 4 * l.length ∧ l.length ≤ 1048576 ∧
    Hid (l.length ≤ c) ∧ Hid (ReadsInt w .u8 B l.length l) ∧ Hid (Bytes l) ∧ Hid (Bld wr w.heap.size w.heap.size acc) ∧ Hid (Bytes acc) ∧ Hid (Below w.heap.size w wr) ∧ Hid (encL m l0.length l0 0 = acc ++ encL m f l line) ∧ Hid (l.length ≤ f) ∧ Hid (acc.length + 6 * l.length ≤ 6 * l0.length)) (fun s0 _ _ => lenOf s0)
  case atStart =>
    refine ⟨A, l0, c0, l0.length, 0, [], rfl, rfl, Int.le_refl _, by omega, hl, HC0, HR0, HBY0, Lib.hid (Bld.fresh w), Lib.hid (fun x hx => by cases hx), Lib.hid (below_first _), Lib.hid rfl, Lib.hid (Nat.le_refl _), Lib.hid (by simp)⟩
  case round =>
    obtain ⟨B, l, c, f, line, acc, rfl, rfl, hl0, hl1, hl2, HC, HR0', HBY, HBL, HBA, HB, HE, Hf, HA⟩ := hrel
    have HR := Lib.hid (HR0'.out.below HB.out)
    have HRA := Lib.hid (fun (w1 : World) (h : Below w.heap.size w w1) => HR0'.out.below h)
    by_cases h0 : l.length = 0
    · have HE2 : Hid (encL m l0.length l0 0 = acc) := Lib.hid (by rw [HE.out]; cases f <;> simp [encL, h0])
      have HS := Lib.hid (bstring w.heap.size w.heap.size acc wr HBL.out HBA.out HB.out.size)
      have hz : l.length ≤ 0 := by omega
      clear h0
      go_wp2_with (first | (go_at_call 26; ((with_reducible refine HS.out.mono ?_); rintro e w1 ⟨rfl, hB1⟩; have HB1 := Lib.hid (HB.out.trans hB1); clear hB1)))
      go_ret2
      rw [HE2.out]
      exact ⟨rfl, HB1.out⟩
    · have hp : 1 ≤ l.length := by omega
      obtain ⟨f, rfl⟩ : ∃ g, f = g + 1 := ⟨f - 1, by have := Hf.out; omega⟩
      go_upto_region 7 with (fail)
      go_cut [29] (fun s29 wx => wx = wr ∧ s29 = .bool (decide (0 < m ∧ line = m)))
      case first =>
        by_cases h1 : 0 < m
        · by_cases h2 : line = m
          · have E := Lib.hid (show decide (0 < m ∧ line = m) = true from decide_eq_true ⟨h1, h2⟩)
            have d2 : (line == m) = true := beq_iff_eq.mpr h2
            clear h2
            go_wp2
            go_meet
            exact ⟨rfl, by rw [E.out]⟩
          · have E := Lib.hid (show decide (0 < m ∧ line = m) = false from decide_eq_false (fun h => h2 h.2))
            have d2 : (line == m) = false := beq_eq_false_iff_ne.mpr h2
            clear h2
            go_wp2
            go_meet
            exact ⟨rfl, by rw [E.out]⟩
        · have E := Lib.hid (show decide (0 < m ∧ line = m) = false from decide_eq_false (fun h => h1 h.1))
          go_wp2
          go_meet
          exact ⟨rfl, by rw [E.out]⟩
      case rest =>
      obtain ⟨rfl, rfl⟩ := hcut
      go_upto_if 29 with (fail)
      go_cut [8] (fun s8 wx => s8 = .int .i64 (if 0 < m ∧ line = m then 0 else line) ∧ Hid (Bld wx w.heap.size w.heap.size (acc ++ if 0 < m ∧ line = m then [13, 10] else [])) ∧ Hid (Below w.heap.size w wx) ∧ Hid (ReadsInt wx .u8 B l.length l))
      case first =>
        by_cases hb : 0 < m ∧ line = m
        · have HS := Lib.hid (bwrite_string w.heap.size w.heap.size acc (⟨#[13, 10]⟩ : ByteArray) wc HBL.out (by have := HA.out; show acc.length + 2 ≤ _; omega) HB.out.size)
          have d1 : decide (0 < m ∧ line = m) = true := decide_eq_true hb
          have HH := Lib.hid hb
          clear hb
          simp only [d1]
          go_wp2_with (first | (go_at_call 24; ((with_reducible refine HS.out.mono ?_); rintro e w1 ⟨rfl, hBl1, hB1⟩; have HB1 := Lib.hid (HB.out.trans hB1); have HBL1 := Lib.hid hBl1; clear hB1 hBl1)))
          go_meet
          exact ⟨by rw [if_pos HH.out], Lib.hid (by rw [if_pos HH.out]; exact HBL1.out), HB1, Lib.hid (HRA.out _ HB1.out)⟩
        · have HH := Lib.hid hb
          have d1 : decide (0 < m ∧ line = m) = false := decide_eq_false hb
          clear hb
          simp only [d1]
          go_wp2
          go_meet
          exact ⟨by rw [if_neg HH.out], Lib.hid (by rw [if_neg HH.out, List.append_nil]; exact HBL.out), HB, HR⟩
      case rest =>
        obtain ⟨rfl, HBL2, HB2, HR2⟩ := hcut
        have hln : 0 ≤ (if 0 < m ∧ line = m then 0 else line) ∧ (if 0 < m ∧ line = m then 0 else line) ≤ line := by split <;> omega
        have HE2 : Hid (encL m l0.length l0 0 = (acc ++ if 0 < m ∧ line = m then [13, 10] else []) ++ quad (min l.length 3) (v3 l) ++ encL m f (l.drop 3) ((if 0 < m ∧ line = m then 0 else line) + 4)) := Lib.hid (by
          rw [HE.out, encL, if_neg h0]; simp only [List.append_assoc])
        have HA2 : Hid ((acc ++ if 0 < m ∧ line = m then [13, 10] else []).length + 6 * l.length ≤ 6 * l0.length + 2) := Lib.hid (by
          have := HA.out
          rw [List.length_append]; split <;> simp <;> omega)
        have HBA2 : Hid (Bytes (acc ++ if 0 < m ∧ line = m then [13, 10] else [])) := Lib.hid (HBA.out.append (by split <;> (intro x hx; simp at hx; try omega)))
        clear HE HA HBA HBL h0
        generalize (if 0 < m ∧ line = m then (0 : Int) else line) = ln at *
        generalize (acc ++ if 0 < m ∧ line = m then [13, 10] else []) = ac2 at *
        obtain ⟨hln0, hln1⟩ := hln
        obtain ⟨n, hn⟩ : ∃ n, n = min l.length 3 := ⟨_, rfl⟩
        have hn1 : 1 ≤ n := by omega
        have hn3 : n ≤ 3 := by omega
        have hnl : n ≤ l.length := by omega
        rw [← hn, drop_min l n hn] at HE2
        have HNL : Hid ((nums .u8 (l.take 3)).length = n) := Lib.hid (by rw [nums_length, List.length_take]; omega)
        have HFIT : Hid (0 + (nums .u8 (l.take 3)).length ≤ [Value.int .u8 0, Value.int .u8 0, Value.int .u8 0].length) := Lib.hid (by rw [HNL.out]; show 0 + n ≤ 3; omega)
        have HN2 : Hid ((nums .u8 (l.take 3)).length = Nat.min l.length 3) := Lib.hid (by rw [nums_length, List.length_take, Nat.min_comm])
        have HNN := Lib.hid hn
        obtain ⟨i0, hi0, _, hsz, _⟩ := info_parts infoU8
        obtain ⟨A1, hcut0, hA1, hC1⟩ := print_drop_of (P := Try.prog) (Value.int .u8) (0 : Int) 23 5 .i64 Try.underlying23 hi0 hsz B c l (n : Int) (by omega) (by omega) HC.out
        simp only [Int.toNat_natCast] at hcut0 hA1 hC1
        have HRq := Lib.hid (hA1 _ HR2.out)
        have HRqw := Lib.hid (hA1 _ HR0'.out)
        have hql : (l.drop n).length = l.length - n := List.length_drop
        have HQL := Lib.hid hql
        have HBYq := Lib.hid (HBY.out.drop n)
        have HCq := Lib.hid hC1
        clear hn hA1 hi0 hsz hql hC1
        have hb0 := HBY.out.rd 0
        have hb1 := HBY.out.rd 1
        have hb2 := HBY.out.rd 2
        simp only [Int.natCast_zero, Int.natCast_one] at hb0 hb1
        rw [show ((2 : Nat) : Int) = 2 from rfl] at hb2
        obtain ⟨hb00, hb01⟩ := hb0
        obtain ⟨hb10, hb11⟩ := hb1
        obtain ⟨hb20, hb21⟩ := hb2
        have HS3 := Lib.hid (splice_three l)
        have HV3 : Hid (v3 l = rd l 0 * 65536 + rd l 1 * 256 + rd l 2) := Lib.hid rfl
        generalize v3 l = v30 at *
        generalize rd l 0 = x0 at *
        generalize rd l 1 = x1 at *
        generalize rd l 2 = x2 at *
        have e1 : bits BinOp.or IntKind.u32 (x0 * 65536) (x1 * 256) = x0 * 65536 + x1 * 256 := or_u32 16 _ _ (by omega) (by omega) (by omega) (by omega) (by omega) (by omega)
        have e2 : bits BinOp.or IntKind.u32 (x0 * 65536 + x1 * 256) x2 = x0 * 65536 + x1 * 256 + x2 := or_u32 8 _ _ (by omega) (by omega) (by omega) (by omega) (by omega) (by omega)
        have hv0 : 0 ≤ x0 * 65536 + x1 * 256 + x2 ∧ x0 * 65536 + x1 * 256 + x2 < 16777216 := by omega
        obtain ⟨v, hv⟩ : ∃ v, v = x0 * 65536 + x1 * 256 + x2 := ⟨_, rfl⟩
        rw [← hv] at hv0 e2 HV3
        obtain ⟨hv00, hv01⟩ := hv0
        clear hv
        generalize l.drop n = q at *
        go_upto_region 14 with (first
          | ((with_reducible refine wpList_copy_splice (o := ⟨some 33, _, _, _, _, _⟩) rfl (.tmp 31) (.tmp 32) 23 23 rfl 5 Try.underlying23 (by kernel_rfl) (some ⟨wc.heap.size, 0, none⟩) B 3 3 l.length c rfl rfl wc.heap.size 0 [.int .u8 0, .int .u8 0, .int .u8 0] 57 (heap_alloc_new wc _) (nums .u8 (l.take 3)) HN2.out (fun hp => ⟨rfl, reads_cells (HR2.out.below (below_first _)) 3 hp⟩) HFIT.out Bytes.nums_one wc.heap.size wc (below_first _) (Nat.le_refl _) ?_); rw [HNL.out]; intro w3 hh3 hB3; have hh4 := hh3.out; rw [HS3.out] at hh4; have c30 : w3.cell? ⟨wc.heap.size, 0, none⟩ = some (.int .u8 x0) := (blk_cell hh4 0).trans rfl; have c31 : w3.cell? ⟨wc.heap.size, 1, none⟩ = some (.int .u8 x1) := (blk_cell hh4 1).trans rfl; have c32 : w3.cell? ⟨wc.heap.size, 2, none⟩ = some (.int .u8 x2) := (blk_cell hh4 2).trans rfl; have HBL3 := Lib.hid (HBL2.out.below hB3); have HR3q := Lib.hid (HRq.out.below hB3); have HB3 := Lib.hid (below_then HB2.out HB2.out.size hB3); clear hh3 hh4 hB3))
        clear e1 e2
        go_wp2
        go_loopw [50] (fun s50 wr => ∃ i : Nat, i ≤ 4 ∧ s50 = .int .i64 i ∧ Hid (Bld wr w.heap.size w.heap.size (ac2 ++ (quad n v).take i)) ∧ Hid (Below w.heap.size w wr)) (fun s50 _ => 4 - (intOf s50).toNat)
        case atStart => exact ⟨0, by omega, rfl, Lib.hid (by rw [List.take_zero, List.append_nil]; exact HBL3.out), HB3⟩
        case round =>
          obtain ⟨i, hi4, rfl, HBi, HBw⟩ := hrel
          by_cases hlt : i < 4
          · have HSN := Lib.hid (quad_snoc n v i hlt)
            have HLN : Hid ((ac2 ++ (quad n v).take i).length + 1 ≤ 140737488355328) := Lib.hid (by
              have := HA2.out
              rw [List.length_append, List.length_take]
              have : (quad n v).length = 4 := rfl
              omega)
            by_cases hin : i ≤ n
            · have HQ4 : Hid (q4 n v i = sgn (v / 2 ^ (18 - 6 * i) % 64)) := Lib.hid (by rw [q4, if_pos hin])
              have d1 : decide ((i : Int) ≤ (n : Int)) = true := decide_eq_true (by omega)
              have d2 : decide (i ≤ n) = true := decide_eq_true hin
              clear HQ4
              rcases (show i = 0 ∨ i = 1 ∨ i = 2 ∨ i = 3 by omega) with rfl | rfl | rfl | rfl
              · have HQ4 : Hid (q4 n v 0 = sgn (v / 262144 % 64)) := Lib.hid (by rw [q4, if_pos (of_decide_eq_true d2)]; rfl)
                have ea : bits BinOp.and IntKind.u32 (v / 262144) 63 = v / 262144 % 64 := and_u32 _ (by omega) (by omega)
                have HSG := Lib.hid (sgn_at (v / 262144 % 64) (by omega) (by omega))
                have HS := Lib.hid (fun x : Int => bwrite_byte w.heap.size w.heap.size (ac2 ++ (quad n v).take 0) x wr HBi.out HLN.out HBw.out.size)
                go_wp2_with (first | (go_at_call 25; ((refine (HS.out _).mono ?_); rintro e w5 ⟨rfl, hBl5, hB5⟩; have HB5 := Lib.hid (HBw.out.trans hB5); have HBL5 := Lib.hid hBl5; clear hB5 hBl5)))
                all_goals
                  go_roundw
                  case rel => exact ⟨1, by omega, rfl, Lib.hid (by rw [HSN.out, HQ4.out, ← List.append_assoc, ← HSG.out]; exact HBL5.out), HB5⟩
                  case measure => simp [intOf]
              · have HQ4 : Hid (q4 n v 1 = sgn (v / 4096 % 64)) := Lib.hid (by rw [q4, if_pos (of_decide_eq_true d2)]; rfl)
                have ea : bits BinOp.and IntKind.u32 (v / 4096) 63 = v / 4096 % 64 := and_u32 _ (by omega) (by omega)
                have HSG := Lib.hid (sgn_at (v / 4096 % 64) (by omega) (by omega))
                have HS := Lib.hid (fun x : Int => bwrite_byte w.heap.size w.heap.size (ac2 ++ (quad n v).take 1) x wr HBi.out HLN.out HBw.out.size)
                go_wp2_with (first | (go_at_call 25; ((refine (HS.out _).mono ?_); rintro e w5 ⟨rfl, hBl5, hB5⟩; have HB5 := Lib.hid (HBw.out.trans hB5); have HBL5 := Lib.hid hBl5; clear hB5 hBl5)))
                all_goals
                  go_roundw
                  case rel => exact ⟨2, by omega, rfl, Lib.hid (by rw [HSN.out, HQ4.out, ← List.append_assoc, ← HSG.out]; exact HBL5.out), HB5⟩
                  case measure => simp [intOf]
              · have HQ4 : Hid (q4 n v 2 = sgn (v / 64 % 64)) := Lib.hid (by rw [q4, if_pos (of_decide_eq_true d2)]; rfl)
                have ea : bits BinOp.and IntKind.u32 (v / 64) 63 = v / 64 % 64 := and_u32 _ (by omega) (by omega)
                have HSG := Lib.hid (sgn_at (v / 64 % 64) (by omega) (by omega))
                have HS := Lib.hid (fun x : Int => bwrite_byte w.heap.size w.heap.size (ac2 ++ (quad n v).take 2) x wr HBi.out HLN.out HBw.out.size)
                go_wp2_with (first | (go_at_call 25; ((refine (HS.out _).mono ?_); rintro e w5 ⟨rfl, hBl5, hB5⟩; have HB5 := Lib.hid (HBw.out.trans hB5); have HBL5 := Lib.hid hBl5; clear hB5 hBl5)))
                all_goals
                  go_roundw
                  case rel => exact ⟨3, by omega, rfl, Lib.hid (by rw [HSN.out, HQ4.out, ← List.append_assoc, ← HSG.out]; exact HBL5.out), HB5⟩
                  case measure => simp [intOf]
              · have HQ4 : Hid (q4 n v 3 = sgn (v % 64)) := Lib.hid (by rw [q4, if_pos (of_decide_eq_true d2)]; simp)
                have ea : bits BinOp.and IntKind.u32 (v) 63 = v % 64 := and_u32 _ (by omega) (by omega)
                have HSG := Lib.hid (sgn_at (v % 64) (by omega) (by omega))
                have HS := Lib.hid (fun x : Int => bwrite_byte w.heap.size w.heap.size (ac2 ++ (quad n v).take 3) x wr HBi.out HLN.out HBw.out.size)
                go_wp2_with (first | (go_at_call 25; ((refine (HS.out _).mono ?_); rintro e w5 ⟨rfl, hBl5, hB5⟩; have HB5 := Lib.hid (HBw.out.trans hB5); have HBL5 := Lib.hid hBl5; clear hB5 hBl5)))
                all_goals
                  go_roundw
                  case rel => exact ⟨4, by omega, rfl, Lib.hid (by rw [HSN.out, HQ4.out, ← List.append_assoc, ← HSG.out]; exact HBL5.out), HB5⟩
                  case measure => simp [intOf]
            · have HQ4 : Hid (q4 n v i = 61) := Lib.hid (by rw [q4, if_neg hin])
              have d1 : decide ((i : Int) ≤ (n : Int)) = false := decide_eq_false (by omega)
              have d2 : decide (i ≤ n) = false := decide_eq_false hin
              have HS := Lib.hid (bwrite_byte w.heap.size w.heap.size (ac2 ++ (quad n v).take i) 61 wr HBi.out HLN.out HBw.out.size)
              clear hin
              go_wp2_with (first | (go_at_call 25; ((with_reducible refine HS.out.mono ?_); rintro e w5 ⟨rfl, hBl5, hB5⟩; have HB5 := Lib.hid (HBw.out.trans hB5); have HBL5 := Lib.hid hBl5; clear hB5 hBl5)))
              go_roundw
              case rel => exact ⟨i + 1, by omega, by go_num, Lib.hid (by rw [HSN.out, HQ4.out, ← List.append_assoc]; exact HBL5.out), HB5⟩
              case measure => simp [intOf]; omega
          · have hi : i = 4 := by omega
            have HBL6 : Hid (Bld wr w.heap.size w.heap.size (ac2 ++ quad n v)) := Lib.hid (by
              have h9 := HBi.out
              rw [hi] at h9; exact h9)
            clear hi
            go_wp2
            go_roundw
            case rel =>
              have hq4 := HQL.out
              exact ⟨A1, q, c - n, f, ln + 4, ac2 ++ quad n v, rfl, rfl, by omega, by omega, by omega, HCq, HRqw, HBYq, HBL6, Lib.hid (HBA2.out.append (fun x hx => by
                simp only [quad, List.mem_cons, List.not_mem_nil, or_false] at hx
                rcases hx with rfl | rfl | rfl | rfl <;> exact q4_byte _ _ _)), HBw, Lib.hid (by rw [HE2.out, HV3.out]), Lib.hid (by have := Hf.out; omega), Lib.hid (by
                have := HA2.out
                have h7 : (quad n v).length = 4 := rfl
                rw [List.length_append, h7]; omega)⟩
            case measure => have hq4 := HQL.out; simp only [lenOf]; omega
end Go.Proofs.Ytijccfblenmfcaa
