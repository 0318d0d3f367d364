/- kind.Read, walked. -/
import Derived.Test.YtdnehnjcbdkgcaaK8
namespace Go.Proofs.Ytdnehnjcbdkgcaa
set_option linter.unusedVariables false
set_option linter.unusedSimpArgs false
open Go.RowKit Go.Shelf Go.Proofs.YtdnehnjcbdkgcaaW.PrintWords PKindReads

theorem two_new {w w1 : World} {o1 o2 : Obj} (hB : Below ((w.alloc o1).alloc o2).heap.size ((w.alloc o1).alloc o2) w1) : w1.heap[w.heap.size]? = some o1 ∧ w1.heap[w.heap.size + 1]? = some o2 ∧ Below w.heap.size w w1 := by
  have hs0 : (w.alloc o1).heap.size = w.heap.size + 1 := by simp
  have h2 := blk_below (blk_new (w.alloc o1) o2) hB
  rw [hs0] at h2
  have ha := ((Below.refl w.heap.size w).alloc (Nat.le_refl _) o1).alloc (show w.heap.size ≤ (w.alloc o1).heap.size by omega) o2
  exact ⟨blk_below (blk_alloc (blk_new w o1) o2) hB, h2, below_then ha ha.size hB⟩
def noKind : Value := .agg #[.string ⟨#[]⟩, .string ⟨#[]⟩, .slice none 0 0]
def ReadEnds (w : World) (r : Option (List Int × List Int × List Pm)) (e : Ending) (w' : World) : Prop :=
  match r with
  | none => e = .returned (.tuple #[.agg #[.string ⟨#[]⟩, .string ⟨#[]⟩, .slice none 0 0], .int .i64 70]) ∧ Below w.heap.size w w'
  | some k => ∃ v, e = .returned (.tuple #[.agg #[.string (St k.1), .string (St k.2.1), v], .int .i64 0]) ∧ PO w' w.heap.size v k.2.2 ∧ Below w.heap.size w w'
def szS : Value → Nat
  | .string s => s.size
  | _ => 0
def readQ (l : List Int) : List Int := (cutP 47 (restL (blankL l))).getD (restL (blankL l))
def readR (l : List Int) : Option (List Pm) := if hasP 47 (restL (blankL l)) = true then readP ((readQ l).length + 1) (restL (readQ l)) [] else none
theorem readK_eq (l : List Int) : readK l = match readR l with | none => none | some ps => if rightB (lowL (tokL (blankL l))) (lowL (tokL (readQ l))) ps = true then some (lowL (tokL (blankL l)), lowL (tokL (readQ l)), ps) else none := by
  unfold readK readR readQ hasP
  rcases cutP 47 (restL (blankL l)) with _ | q
  · rfl
  · rfl
theorem cut_len (p : Int) (l : List Int) : ((cutP p l).getD l).length ≤ l.length := by
  rcases h : cutP p l with _ | t
  · simp
  · rw [cutP_of h]; simp
theorem cut_bytes (p : Int) {l : List Int} (hb : Bytes l) : Bytes ((cutP p l).getD l) := by
  rcases h : cutP p l with _ | t
  · simpa using hb
  · rw [cutP_of h] at hb; exact fun x hx => hb x (List.mem_cons_of_mem _ hx)
structure POk (ps : List Pm) (m : Nat) : Prop where
  n : ps.length ≤ m
  ok : ∀ p ∈ ps, (Bytes p.1 ∧ p.1.length ≤ 4294967296) ∧ (Bytes p.2 ∧ p.2.length ≤ 4294967296)
theorem POk.nil (m : Nat) : POk [] m := ⟨Nat.zero_le _, fun p hp => by cases hp⟩
set_option maxRecDepth 100000 in
set_option maxHeartbeats 4000000 in
theorem read_any (l : List Int) (w : World) (hby : Bytes l) (hl : l.length ≤ 4294967296) :
    Calls Try.prog 9 #[.string (St l)] w (ReadEnds w (readK l)) := by
  have hbb := blankL_bytes hby
  have hbl := blankL_len l
  have hrl := restL_len (blankL l)
  have htl := tokL_len (blankL l)
  have HB0 := Lib.hid (fun W => blank_any l W hby (by omega))
  have HT := Lib.hid (token_all (blankL l) hbb (by omega))
  have HC := Lib.hid (fun W => cut_any 47 (St [47]) (restL (blankL l)) W rfl (by omega) (restL_bytes hbb) (by omega))
  unfold CutEnds at HC
  rw [readK_eq]
  have hR : ∃ q, readQ l = q := ⟨_, rfl⟩
  obtain ⟨q, hq⟩ := hR
  have hqb : Bytes q := by rw [← hq]; exact cut_bytes 47 (restL_bytes hbb)
  have hql : q.length ≤ l.length := by rw [← hq]; exact Nat.le_trans (cut_len 47 _) (by omega)
  rw [show (cutP 47 (restL (blankL l))).getD (restL (blankL l)) = q from hq] at HC
  have hRR : readR l = if hasP 47 (restL (blankL l)) = true then readP (q.length + 1) (restL q) [] else none := by unfold readR; rw [hq]
  rw [hq]
  have hrl2 := restL_len q
  have htl2 := tokL_len q
  have hrb2 := restL_bytes hqb
  have HT2 := Lib.hid (token_all q hqb (by omega))
  have HL1 := Lib.hid (lower_St (tokL (blankL l)) (tokL_bytes hbb) (by omega))
  have HL2 := Lib.hid (lower_St (tokL q) (tokL_bytes hqb) (by omega))
  have hn1b : Bytes (lowL (tokL (blankL l))) := lowL_bytes (tokL_bytes hbb)
  have hn2b : Bytes (lowL (tokL q)) := lowL_bytes (tokL_bytes hqb)
  have hn1l : (lowL (tokL (blankL l))).length ≤ 4294967296 := by rw [lowL_length]; omega
  have hn2l : (lowL (tokL q)).length ≤ 4294967296 := by rw [lowL_length]; omega
  have HE : Hid (St [47] = ⟨#[47]⟩) := Lib.hid rfl
  rw [HE.out] at HC
  generalize readR l = R at *
  generalize hasP 47 (restL (blankL l)) = ok0 at *
  have hrest : (restL q).length ≤ 4294967296 := by omega
  have hrf : (restL q).length < q.length + 1 := by omega
  generalize q.length + 1 = f0 at *
  clear HE hby hl hbb hbl hrl htl hrl2 htl2 hq hqb hql
  generalize lowL (tokL (blankL l)) = n1 at *
  generalize lowL (tokL q) = n2 at *
  generalize restL q = r0 at *
  generalize St q = s5 at *
  generalize St (tokL q) = s4 at *
  generalize St (tokL (blankL l)) = s2 at *
  generalize St (restL (blankL l)) = s3 at *
  generalize St (blankL l) = s1 at *
  generalize St l = s at *
  obtain ⟨V, hV⟩ : ∃ V, (match R with | none => none | some ps => if rightB n1 n2 ps = true then some (n1, n2, ps) else none) = V := ⟨_, rfl⟩
  rw [hV]
  have HVd := Lib.hid hV.symm
  clear hV
  go_enter Try.func9, Try.ntmps9
  go_wp2_with (first
    | (go_at_call 23; ((with_reducible refine (HB0.out _).mono ?_); rintro e w1 ⟨rfl, rfl⟩))
    | (go_at_call 22; ((with_reducible refine (HT.out _).mono ?_); rintro e w1 ⟨rfl, hB⟩; have h2 := two_new hB; have HF1 := Lib.hid h2.1; have HK1 := Lib.hid h2.2.1; have HB1 := Lib.hid h2.2.2; clear hB h2))
    | (go_at_call 24; ((with_reducible refine (HC.out _).mono ?_); rintro e w2 ⟨rfl, rfl⟩))
    | (go_at_call 22; ((with_reducible refine (HT2.out _).mono ?_); rintro e w2 ⟨rfl, hB⟩; have HF2 := Lib.hid (blk_below HF1.out hB); have HK2 := Lib.hid (blk_below HK1.out hB); have HB2 := Lib.hid (below_then HB1.out HB1.out.size hB); clear hB))
    | (go_at_call 25; ((with_reducible refine (HL1.out _).mono ?_); rintro e w3 ⟨rfl, hB⟩; have HF3 := Lib.hid (blk_below HF2.out hB); have HK3 := Lib.hid (blk_below HK2.out hB); have HB3 := Lib.hid (below_then HB2.out HB2.out.size hB); clear hB))
    | (go_at_call 25; ((with_reducible refine (HL2.out _).mono ?_); rintro e w4 ⟨rfl, hB⟩; have HF4 := Lib.hid (blk_below HF3.out hB); have HK4 := Lib.hid (blk_below HK3.out hB); have HB4 := Lib.hid (below_then HB3.out HB3.out.size hB); have k0 : w4.cell? ⟨w.heap.size + 1, 0, none⟩ = some (.string ⟨#[]⟩) := (blk_cell HK4.out 0).trans rfl; have k1 : w4.cell? ⟨w.heap.size + 1, 1, none⟩ = some (.string ⟨#[]⟩) := (blk_cell HK4.out 1).trans rfl; have y0 := blk_frozen HK4.out 0; have y1 := blk_frozen HK4.out 1; clear hB)))
  have HK5 : Hid (_ = some (Obj.cells #[.string (St n1), .string (St n2), .slice none 0 0] 25 (0, 0))) := Lib.hid (blk_set (blk_set HK4.out 0 (.string (St n1))) 1 (.string (St n2)))
  have HF5 := Lib.hid (blk_far (blk_far HF4.out (p := ⟨w.heap.size + 1, 0, none⟩) (by simp) (.string (St n1))) (p := ⟨w.heap.size + 1, 1, none⟩) (by simp) (.string (St n2)))
  have HB5 := Lib.hid (below_set (g := w.heap.size + 1) (j := 1) (v := .string (St n2)) (below_set (g := w.heap.size + 1) (j := 0) (v := .string (St n1)) HB4.out (Nat.le_succ _)) (Nat.le_succ _))
  go_loopw [6, 7] (fun s6 s7 wr => ∃ (rest : List Int) (b : Bool) (ps : List Pm) (v : Value) (f : Nat), s6 = .string (St rest) ∧ s7 = .bool b ∧ Hid (Bytes rest) ∧ Hid (rest.length + ps.length ≤ 4294967296) ∧ Hid (∀ p ∈ ps, (Bytes p.1 ∧ p.1.length ≤ 4294967296) ∧ (Bytes p.2 ∧ p.2.length ≤ 4294967296)) ∧ Hid (PO wr w.heap.size v ps) ∧ Hid (wr.heap[w.heap.size + 1]? = some (Obj.cells #[.string (St n1), .string (St n2), v] 25 (0, 0))) ∧ Hid (wr.heap[w.heap.size]? = some (Obj.cells #[.string ⟨#[]⟩, .string ⟨#[]⟩, .slice none 0 0] 25 (0, 0))) ∧ Hid (Below w.heap.size w wr) ∧ Hid (rest.length < f) ∧ Hid (R = if b = true then readP f rest ps else none)) (fun s6 _ _ => szS s6)
  case atStart => exact ⟨r0, ok0, [], .slice none 0 0, f0, rfl, rfl, Lib.hid hrb2, Lib.hid (by simpa using hrest), Lib.hid (by intro p hp; cases hp), Lib.hid (PO.nil _ _), HK5, HF5, HB5, Lib.hid hrf, Lib.hid hRR⟩
  case round =>
    obtain ⟨rest, b, ps, v, f, rfl, rfl, HRB, HPN, HPO, HO, HK, HF, HB, Hf, HQ⟩ := hrel
    clear HK5 HF5 HB5 hRR hrb2 hrest hrf
    rcases b with _ | _
    · have HV : Hid (V = none) := Lib.hid (by rw [HVd.out, HQ.out]; rfl)
      clear HQ
      have c0 : wr.cell? ⟨w.heap.size, 0, none⟩ = some (.string ⟨#[]⟩) := (blk_cell HF.out 0).trans rfl
      have c1 : wr.cell? ⟨w.heap.size, 1, none⟩ = some (.string ⟨#[]⟩) := (blk_cell HF.out 1).trans rfl
      have c2 : wr.cell? ⟨w.heap.size, 2, none⟩ = some (.slice none 0 0) := (blk_cell HF.out 2).trans rfl
      have z0 := blk_frozen HF.out 0
      have z1 := blk_frozen HF.out 1
      have z2 := blk_frozen HF.out 2
      go_wp2
      have HF9 := blk_set (blk_set (blk_set HF.out 0 (.string ⟨#[]⟩)) 1 (.string ⟨#[]⟩)) 2 (.slice none 0 0)
      refine bodyPost_ret (results_ct rfl _ _ _ _ _ _ _ rfl HF9 Try.underlying25 rfl (by kernel_rfl)) rfl ?_
      rw [HV.out]
      exact ⟨rfl, below_set (below_set (below_set HB.out (Nat.le_refl _)) (Nat.le_refl _)) (Nat.le_refl _)⟩
    · have hq := HQ.out
      rw [if_pos rfl] at hq
      obtain ⟨f, rfl⟩ : ∃ g, f = g + 1 := ⟨f - 1, by have := Hf.out; omega⟩
      rw [readP] at hq
      have hrn := HPN.out
      have HBL := Lib.hid (fun W => blank_any rest W HRB.out (by omega))
      have hb1 := blankL_bytes HRB.out
      have hl1 := blankL_len rest
      clear HQ
      generalize blankL rest = r1 at *
      by_cases g1 : r1 = []
      · rw [if_pos g1] at hq
        have hse : (St r1).toList = [] := by rw [g1]; exact sn_toList []
        subst g1
        clear hb1 hl1 hrn
        obtain ⟨A, cA, rfl, hcA, hPR⟩ := HO.out.reads
        have HRC := Lib.hid (fun (W : World) (hW : Below wr.heap.size wr W) => right_any n1 n2 ps A cA W ⟨hn1b, hn2b, hn1l, hn2l, by have := HPN.out; omega, fun p hp => (HPO.out p hp).1, fun p hp => (HPO.out p hp).2⟩ (hPR.below hW) hcA)
        have HO1 := HO
        have k0 : wr.cell? ⟨w.heap.size + 1, 0, none⟩ = some (.string (St n1)) := (blk_cell HK.out 0).trans rfl
        have k1 : wr.cell? ⟨w.heap.size + 1, 1, none⟩ = some (.string (St n2)) := (blk_cell HK.out 1).trans rfl
        have k2 : wr.cell? ⟨w.heap.size + 1, 2, none⟩ = some (.slice A ps.length cA) := (blk_cell HK.out 2).trans rfl
        by_cases hrt : rightB n1 n2 ps = true
        · rw [hrt] at HRC
          have HVV : Hid (V = some (n1, n2, ps)) := Lib.hid (by rw [HVd.out, hq]; simp only; rw [if_pos hrt])
          clear hrt hq hcA hPR hn1b hn2b hn1l hn2l
          go_wp2_with (first
            | (go_at_call 23; ((with_reducible refine (HBL.out _).mono ?_); rintro e w1 ⟨rfl, rfl⟩))
            | (go_at_call 17; ((with_reducible refine (HRC.out _ (Below.refl _ _)).mono ?_); rintro e w2 ⟨rfl, hB⟩; have HF2 := Lib.hid (blk_below HF.out hB); have HK2 := Lib.hid (blk_below HK.out hB); have HO2 := Lib.hid (HO1.out.below hB); have HB2 := Lib.hid (below_then HB.out HB.out.size hB); clear hB k0 k1 k2; have c0 : w2.cell? ⟨w.heap.size, 0, none⟩ = some (.string ⟨#[]⟩) := (blk_cell HF2.out 0).trans rfl; have c1 : w2.cell? ⟨w.heap.size, 1, none⟩ = some (.string ⟨#[]⟩) := (blk_cell HF2.out 1).trans rfl; have c2 : w2.cell? ⟨w.heap.size, 2, none⟩ = some (.slice none 0 0) := (blk_cell HF2.out 2).trans rfl; have z0 := blk_frozen HF2.out 0; have z1 := blk_frozen HF2.out 1; have z2 := blk_frozen HF2.out 2; have k0 : w2.cell? ⟨w.heap.size + 1, 0, none⟩ = some (.string (St n1)) := (blk_cell HK2.out 0).trans rfl; have k1 : w2.cell? ⟨w.heap.size + 1, 1, none⟩ = some (.string (St n2)) := (blk_cell HK2.out 1).trans rfl; have k2 : w2.cell? ⟨w.heap.size + 1, 2, none⟩ = some (.slice A ps.length cA) := (blk_cell HK2.out 2).trans rfl)))
          have HF9 := blk_set (blk_set (blk_set HF2.out 0 (.string (St n1))) 1 (.string (St n2))) 2 (.slice A ps.length cA)
          have hne := own_ne HO2.out HF2.out (by decide)
          refine bodyPost_ret (results_ct rfl _ _ _ _ _ _ _ rfl HF9 Try.underlying25 rfl (by kernel_rfl)) rfl ?_
          rw [HVV.out]
          exact ⟨_, rfl, own_setCell (own_setCell (own_setCell HO2.out hne _) hne _) hne _, below_set (below_set (below_set HB2.out (Nat.le_refl _)) (Nat.le_refl _)) (Nat.le_refl _)⟩
        · have hrt' : rightB n1 n2 ps = false := by simpa using hrt
          rw [hrt'] at HRC
          have HVV : Hid (V = none) := Lib.hid (by rw [HVd.out, hq]; simp only; rw [if_neg hrt])
          clear hrt hrt' hq hcA hPR hn1b hn2b hn1l hn2l
          go_wp2_with (first
            | (go_at_call 23; ((with_reducible refine (HBL.out _).mono ?_); rintro e w1 ⟨rfl, rfl⟩))
            | (go_at_call 17; ((with_reducible refine (HRC.out _ (Below.refl _ _)).mono ?_); rintro e w2 ⟨rfl, hB⟩; have HF2 := Lib.hid (blk_below HF.out hB); have HB2 := Lib.hid (below_then HB.out HB.out.size hB); clear hB k0 k1 k2; have c0 : w2.cell? ⟨w.heap.size, 0, none⟩ = some (.string ⟨#[]⟩) := (blk_cell HF2.out 0).trans rfl; have c1 : w2.cell? ⟨w.heap.size, 1, none⟩ = some (.string ⟨#[]⟩) := (blk_cell HF2.out 1).trans rfl; have c2 : w2.cell? ⟨w.heap.size, 2, none⟩ = some (.slice none 0 0) := (blk_cell HF2.out 2).trans rfl; have z0 := blk_frozen HF2.out 0; have z1 := blk_frozen HF2.out 1; have z2 := blk_frozen HF2.out 2)))
          have HF9 := blk_set (blk_set (blk_set HF2.out 0 (.string ⟨#[]⟩)) 1 (.string ⟨#[]⟩)) 2 (.slice none 0 0)
          refine bodyPost_ret (results_ct rfl _ _ _ _ _ _ _ rfl HF9 Try.underlying25 rfl (by kernel_rfl)) rfl ?_
          rw [HVV.out]
          exact ⟨rfl, below_set (below_set (below_set HB2.out (Nat.le_refl _)) (Nat.le_refl _)) (Nat.le_refl _)⟩
      · rw [if_neg g1] at hq
        have hse0 : (St r1).toList ≠ [] := fun h => g1 (by have := congrArg List.length h; rw [show (St r1).toList = U8 r1 from sn_toList r1] at this; exact List.eq_nil_of_length_eq_zero (by simpa [U8] using this))
        have hse : (St r1).toList.isEmpty = false := by
          cases h : (St r1).toList with
          | nil => exact absurd h hse0
          | cons a t => rfl
        have hse2 : ((St r1).toList == []) = false := by
          cases h : (St r1).toList with
          | nil => exact absurd h hse0
          | cons a t => rfl
        have HCC := Lib.hid (fun W => cut_any 59 (St [59]) r1 W rfl (by omega) hb1 (by omega))
        unfold CutEnds at HCC
        have HE : Hid (St [59] = ⟨#[59]⟩) := Lib.hid rfl
        rw [HE.out] at HCC
        have hcb := cut_bytes 59 hb1
        have hcl := cut_len 59 r1
        rcases hc : cutP 59 r1 with _ | q
        · rw [hc] at hq
          simp only at hq
          rw [show hasP 59 r1 = false by unfold hasP; rw [hc]; rfl, hc, Option.getD_none] at HCC
          have HV : Hid (V = none) := Lib.hid (by rw [HVd.out, hq])
          have HB2L := Lib.hid (fun W => blank_any r1 W hb1 (by omega))
          clear HE hq hb1 hl1 hrn hcb hcl hc g1 hse0
          have c0 : wr.cell? ⟨w.heap.size, 0, none⟩ = some (.string ⟨#[]⟩) := (blk_cell HF.out 0).trans rfl
          have c1 : wr.cell? ⟨w.heap.size, 1, none⟩ = some (.string ⟨#[]⟩) := (blk_cell HF.out 1).trans rfl
          have c2 : wr.cell? ⟨w.heap.size, 2, none⟩ = some (.slice none 0 0) := (blk_cell HF.out 2).trans rfl
          have z0 := blk_frozen HF.out 0
          have z1 := blk_frozen HF.out 1
          have z2 := blk_frozen HF.out 2
          go_wp2_with (first
            | (go_at_call 23; ((with_reducible refine (HBL.out _).mono ?_); rintro e w1 ⟨rfl, rfl⟩))
            | (go_at_call 24; ((with_reducible refine (HCC.out _).mono ?_); rintro e w1 ⟨rfl, rfl⟩))
            | (go_at_call 23; ((with_reducible refine (HB2L.out _).mono ?_); rintro e w1 ⟨rfl, rfl⟩)))
          have HF9 := blk_set (blk_set (blk_set HF.out 0 (.string ⟨#[]⟩)) 1 (.string ⟨#[]⟩)) 2 (.slice none 0 0)
          refine bodyPost_ret (results_ct rfl _ _ _ _ _ _ _ rfl HF9 Try.underlying25 rfl (by kernel_rfl)) rfl ?_
          rw [HV.out]
          exact ⟨rfl, below_set (below_set (below_set HB.out (Nat.le_refl _)) (Nat.le_refl _)) (Nat.le_refl _)⟩
        · rw [hc] at hq
          simp only at hq
          rw [show hasP 59 r1 = true by unfold hasP; rw [hc]; rfl, hc, Option.getD_some] at HCC
          rw [hc, Option.getD_some] at hcb
          have hqr := cutP_of hc
          have hql : q.length + 1 = r1.length := by rw [hqr]; rfl
          have HB2L := Lib.hid (fun W => blank_any q W hcb (by omega))
          have hb2 := blankL_bytes hcb
          have hl2 := blankL_len q
          clear HE hc hqr hcl
          generalize blankL q = q1 at *
          by_cases g2 : q1 = []
          · rw [if_pos g2] at hq
            have hse3 : (St q1).toList = [] := by rw [g2]; exact sn_toList []
            subst g2
            clear hb1 hl1 hrn hcb hql hb2 hl2 hse0 g1
            obtain ⟨A, cA, rfl, hcA, hPR⟩ := HO.out.reads
            have HRC := Lib.hid (fun (W : World) (hW : Below wr.heap.size wr W) => right_any n1 n2 ps A cA W ⟨hn1b, hn2b, hn1l, hn2l, by have := HPN.out; omega, fun p hp => (HPO.out p hp).1, fun p hp => (HPO.out p hp).2⟩ (hPR.below hW) hcA)
            have HO1 := HO
            have k0 : wr.cell? ⟨w.heap.size + 1, 0, none⟩ = some (.string (St n1)) := (blk_cell HK.out 0).trans rfl
            have k1 : wr.cell? ⟨w.heap.size + 1, 1, none⟩ = some (.string (St n2)) := (blk_cell HK.out 1).trans rfl
            have k2 : wr.cell? ⟨w.heap.size + 1, 2, none⟩ = some (.slice A ps.length cA) := (blk_cell HK.out 2).trans rfl
            by_cases hrt : rightB n1 n2 ps = true
            · rw [hrt] at HRC
              have HVV : Hid (V = some (n1, n2, ps)) := Lib.hid (by rw [HVd.out, hq]; simp only; rw [if_pos hrt])
              clear hrt hq hcA hPR hn1b hn2b hn1l hn2l
              go_wp2_with (first
                | (go_at_call 23; ((with_reducible refine (HBL.out _).mono ?_); rintro e w1 ⟨rfl, rfl⟩))
                | (go_at_call 24; ((with_reducible refine (HCC.out _).mono ?_); rintro e w1 ⟨rfl, rfl⟩))
                | (go_at_call 23; ((with_reducible refine (HB2L.out _).mono ?_); rintro e w1 ⟨rfl, rfl⟩))
                | (go_at_call 17; ((with_reducible refine (HRC.out _ (Below.refl _ _)).mono ?_); rintro e w2 ⟨rfl, hB⟩; have HF2 := Lib.hid (blk_below HF.out hB); have HK2 := Lib.hid (blk_below HK.out hB); have HO2 := Lib.hid (HO1.out.below hB); have HB2 := Lib.hid (below_then HB.out HB.out.size hB); clear hB k0 k1 k2; have c0 : w2.cell? ⟨w.heap.size, 0, none⟩ = some (.string ⟨#[]⟩) := (blk_cell HF2.out 0).trans rfl; have c1 : w2.cell? ⟨w.heap.size, 1, none⟩ = some (.string ⟨#[]⟩) := (blk_cell HF2.out 1).trans rfl; have c2 : w2.cell? ⟨w.heap.size, 2, none⟩ = some (.slice none 0 0) := (blk_cell HF2.out 2).trans rfl; have z0 := blk_frozen HF2.out 0; have z1 := blk_frozen HF2.out 1; have z2 := blk_frozen HF2.out 2; have k0 : w2.cell? ⟨w.heap.size + 1, 0, none⟩ = some (.string (St n1)) := (blk_cell HK2.out 0).trans rfl; have k1 : w2.cell? ⟨w.heap.size + 1, 1, none⟩ = some (.string (St n2)) := (blk_cell HK2.out 1).trans rfl; have k2 : w2.cell? ⟨w.heap.size + 1, 2, none⟩ = some (.slice A ps.length cA) := (blk_cell HK2.out 2).trans rfl)))
              have HF9 := blk_set (blk_set (blk_set HF2.out 0 (.string (St n1))) 1 (.string (St n2))) 2 (.slice A ps.length cA)
              have hne := own_ne HO2.out HF2.out (by decide)
              refine bodyPost_ret (results_ct rfl _ _ _ _ _ _ _ rfl HF9 Try.underlying25 rfl (by kernel_rfl)) rfl ?_
              rw [HVV.out]
              exact ⟨_, rfl, own_setCell (own_setCell (own_setCell HO2.out hne _) hne _) hne _, below_set (below_set (below_set HB2.out (Nat.le_refl _)) (Nat.le_refl _)) (Nat.le_refl _)⟩
            · have hrt' : rightB n1 n2 ps = false := by simpa using hrt
              rw [hrt'] at HRC
              have HVV : Hid (V = none) := Lib.hid (by rw [HVd.out, hq]; simp only; rw [if_neg hrt])
              clear hrt hrt' hq hcA hPR hn1b hn2b hn1l hn2l
              go_wp2_with (first
                | (go_at_call 23; ((with_reducible refine (HBL.out _).mono ?_); rintro e w1 ⟨rfl, rfl⟩))
                | (go_at_call 24; ((with_reducible refine (HCC.out _).mono ?_); rintro e w1 ⟨rfl, rfl⟩))
                | (go_at_call 23; ((with_reducible refine (HB2L.out _).mono ?_); rintro e w1 ⟨rfl, rfl⟩))
                | (go_at_call 17; ((with_reducible refine (HRC.out _ (Below.refl _ _)).mono ?_); rintro e w2 ⟨rfl, hB⟩; have HF2 := Lib.hid (blk_below HF.out hB); have HB2 := Lib.hid (below_then HB.out HB.out.size hB); clear hB k0 k1 k2; have c0 : w2.cell? ⟨w.heap.size, 0, none⟩ = some (.string ⟨#[]⟩) := (blk_cell HF2.out 0).trans rfl; have c1 : w2.cell? ⟨w.heap.size, 1, none⟩ = some (.string ⟨#[]⟩) := (blk_cell HF2.out 1).trans rfl; have c2 : w2.cell? ⟨w.heap.size, 2, none⟩ = some (.slice none 0 0) := (blk_cell HF2.out 2).trans rfl; have z0 := blk_frozen HF2.out 0; have z1 := blk_frozen HF2.out 1; have z2 := blk_frozen HF2.out 2)))
              have HF9 := blk_set (blk_set (blk_set HF2.out 0 (.string ⟨#[]⟩)) 1 (.string ⟨#[]⟩)) 2 (.slice none 0 0)
              refine bodyPost_ret (results_ct rfl _ _ _ _ _ _ _ rfl HF9 Try.underlying25 rfl (by kernel_rfl)) rfl ?_
              rw [HVV.out]
              exact ⟨rfl, below_set (below_set (below_set HB2.out (Nat.le_refl _)) (Nat.le_refl _)) (Nat.le_refl _)⟩
          · rw [if_neg g2] at hq
            have hse30 : (St q1).toList ≠ [] := fun h => g2 (by have := congrArg List.length h; rw [show (St q1).toList = U8 q1 from sn_toList q1] at this; exact List.eq_nil_of_length_eq_zero (by simpa [U8] using this))
            have hse3 : (St q1).toList.isEmpty = false := by
              cases h : (St q1).toList with
              | nil => exact absurd h hse30
              | cons a t => rfl
            have hse32 : ((St q1).toList == []) = false := by
              cases h : (St q1).toList with
              | nil => exact absurd h hse30
              | cons a t => rfl
            have HPA := Lib.hid (fun W => param_any q1 W hb2 (by omega))
            unfold ParEnds at HPA
            have hx := paramL_ok hb2
            generalize paramL q1 = x at *
            obtain ⟨pn, pv, pr, pok⟩ := x
            simp only at hq hx HPA
            obtain ⟨hx1, hx2, hx3, hx4, hx5, hx6⟩ := hx
            have hszq : szS (.string (St pr)) < szS (.string (St rest)) := by simp only [szS, St_size]; omega
            have HPR := Lib.hid hx3
            have HPN2 : Hid (pr.length + (ps ++ [(pn, pv)]).length ≤ 4294967296) := Lib.hid (by rw [List.length_append, List.length_singleton]; omega)
            have HPO2 : Hid (∀ p ∈ ps ++ [(pn, pv)], (Bytes p.1 ∧ p.1.length ≤ 4294967296) ∧ (Bytes p.2 ∧ p.2.length ≤ 4294967296)) := Lib.hid (fun p hp => by
              rcases List.mem_append.1 hp with hp | hp
              · exact HPO.out p hp
              · rw [List.mem_singleton.1 hp]; exact ⟨⟨hx1, by simp only; omega⟩, hx2, by simp only; omega⟩)
            have HQ2 : Hid (R = if pok = true then readP f pr (ps ++ [(pn, pv)]) else none) := Lib.hid hq
            have Hf2 : Hid (pr.length < f) := Lib.hid (by have := Hf.out; omega)
            have HL3 : Hid ((ps.length + 1) * 32 ≤ 140737488355328) := Lib.hid (by omega)
            clear hq hb1 hl1 hrn hcb hql hb2 hl2 hse0 hse30 g1 g2 hx1 hx2 hx3 hx4 hx5 hx6 hn1b hn2b hn1l hn2l
            go_wp2_with (first
              | (go_at_call 23; ((with_reducible refine (HBL.out _).mono ?_); rintro e w1 ⟨rfl, rfl⟩))
              | (go_at_call 24; ((with_reducible refine (HCC.out _).mono ?_); rintro e w1 ⟨rfl, rfl⟩))
              | (go_at_call 23; ((with_reducible refine (HB2L.out _).mono ?_); rintro e w1 ⟨rfl, rfl⟩))
              | (go_at_call 26; ((with_reducible refine (HPA.out _).mono ?_); rintro e w1 ⟨rfl, hB⟩; have HQB := Lib.hid (blk_below (blk_new wr _) hB); have HK1 := Lib.hid (blk_below (blk_alloc HK.out _) hB); have HF1 := Lib.hid (blk_below (blk_alloc HF.out _) hB); have HO1 := Lib.hid ((HO.out.alloc_ _).below hB); have HB1 := Lib.hid (below_then (HB.out.alloc HB.out.size _) (HB.out.alloc HB.out.size _).size hB); have hpn : some wr.heap.size ≠ v.ownBlock := PO.ne_new HO.out; have HOs := Lib.hid (own_setCell (own_setCell HO1.out (p := ⟨wr.heap.size, 0, none⟩) hpn (.string (St pn))) (p := ⟨wr.heap.size, 1, none⟩) hpn (.string (St pv))); have hb1 : w.heap.size + 1 ≠ wr.heap.size := Nat.ne_of_lt (blk_lt HK.out); have hb0 : w.heap.size ≠ wr.heap.size := Nat.ne_of_lt (blk_lt HF.out); have HKs := Lib.hid (blk_far (blk_far HK1.out (p := ⟨wr.heap.size, 0, none⟩) hb1 (.string (St pn))) (p := ⟨wr.heap.size, 1, none⟩) hb1 (.string (St pv))); have HFs := Lib.hid (blk_far (blk_far HF1.out (p := ⟨wr.heap.size, 0, none⟩) hb0 (.string (St pn))) (p := ⟨wr.heap.size, 1, none⟩) hb0 (.string (St pv))); have HBs := Lib.hid (below_set (g := wr.heap.size) (j := 1) (v := .string (St pv)) (below_set (g := wr.heap.size) (j := 0) (v := .string (St pn)) HB1.out HB.out.size) HB.out.size); have HSs : Hid (w.heap.size ≤ ((w1.setCell ⟨wr.heap.size, 0, none⟩ (.string (St pn))).setCell ⟨wr.heap.size, 1, none⟩ (.string (St pv))).heap.size) := Lib.hid HBs.out.size; have HSE : Hid (((w1.setCell ⟨wr.heap.size, 0, none⟩ (.string (St pn))).setCell ⟨wr.heap.size, 1, none⟩ (.string (St pv))).heap.size = w1.heap.size) := Lib.hid (by simp); have p0 : w1.cell? ⟨wr.heap.size, 0, none⟩ = some (.string ⟨#[]⟩) := (blk_cell HQB.out 0).trans rfl; have p1 : w1.cell? ⟨wr.heap.size, 1, none⟩ = some (.string ⟨#[]⟩) := (blk_cell HQB.out 1).trans rfl; have x0 := blk_frozen HQB.out 0; have x1 := blk_frozen HQB.out 1; have k2 : w1.cell? ⟨w.heap.size + 1, 2, none⟩ = some v := (blk_cell HK1.out 2).trans rfl; have hb1s := hb1.symm; clear hB))
              | (at_builtin; refine print_append_cells (w0 := w) w.heap.size rfl (.tmp 57) (.tmp 59) 23 42 (.agg #[.string ⟨#[]⟩, .string ⟨#[]⟩]) 2 32 rfl Try.underlying23 infoParam rfl (by decide) (by decide) v ps.length (ps.flatMap pcells) (pcells (pn, pv)) rfl (by rw [HSE.out]; rfl) rfl (pcells_one _) HOs.out HBs.out HSs.out HL3.out ?_; intro v1 w2 hO2 hB2 hg2 _; have HO2 := Lib.hid (PO.snoc hO2); have HB2 := Lib.hid hB2; have HK2 := Lib.hid ((hg2.block _ (blk_lt HKs.out) (own_ne HOs.out HKs.out (by decide))).trans HKs.out); have HF2 := Lib.hid ((hg2.block _ (blk_lt HFs.out) (own_ne HOs.out HFs.out (by decide))).trans HFs.out); have m2 : w2.cell? ⟨w.heap.size + 1, 2, none⟩ = some v := (blk_cell HK2.out 2).trans rfl; have y2 := blk_frozen HK2.out 2; obtain ⟨A1, cA1, rfl, hcA1, hPR1⟩ := HO2.out.reads; have HO3 : Hid (PO w2 w.heap.size (.slice A1 (ps.length + 1) cA1) (ps ++ [(pn, pv)])) := Lib.hid (by have h := HO2.out; rwa [List.length_append, List.length_singleton] at h); clear hO2 hB2 hg2 hPR1 hcA1))
            go_roundw
            case rel => exact ⟨pr, pok, ps ++ [(pn, pv)], .slice A1 (ps.length + 1) cA1, f, rfl, rfl, HPR, HPN2, HPO2, Lib.hid (own_setCell HO3.out (own_ne HO3.out HK2.out (by decide)) _), Lib.hid (blk_set HK2.out 2 _), Lib.hid (blk_far HF2.out (by simp) _), Lib.hid (below_set HB2.out (by omega)), Hf2, HQ2⟩
            case measure => exact hszq
end Go.Proofs.Ytdnehnjcbdkgcaa
