/- kind: the law's closure that makes letters large; plain: such a kind is read as it was. The law KindLetters, walked. -/
import Derived.Test.YtdnehnjcbdkgcaaKO
import Derived.Test.YtdnehnjcbdkgcaaKE
import Derived.Test.YtdnehnjcbdkgcaaWLast
namespace Go.Proofs.Ytdnehnjcbdkgcaa
set_option linter.unusedVariables false
set_option linter.unusedSimpArgs false
open Go.RowKit Go.Shelf Go.Proofs.YtdnehnjcbdkgcaaW.PrintWords PKindReads

def bigC (c : Int) : Int := if 97 ≤ c ∧ c ≤ 122 then c - 32 else c
def bigL (l : List Int) : List Int := l.map bigC
def bigS (s : ByteArray) : ByteArray := strOfNums (bigL (bytesOf s))
theorem bigC_range {c : Int} (h0 : 0 ≤ c) (h1 : c ≤ 255) : 0 ≤ bigC c ∧ bigC c ≤ 255 := by unfold bigC; split <;> omega
theorem bigL_length (l : List Int) : (bigL l).length = l.length := by simp [bigL]
theorem bigL_bytes {l : List Int} (h : Bytes l) : Bytes (bigL l) := by
  intro x hx
  simp only [bigL, List.mem_map] at hx
  obtain ⟨c, hc, rfl⟩ := hx
  exact bigC_range (h c hc).1 (h c hc).2
def bigK (k : Nat) (l : List Int) : List Int := bigL (l.take k) ++ l.drop k
theorem bigK_length (k : Nat) (l : List Int) : (bigK k l).length = l.length := by simp [bigK, bigL]; omega
theorem bigK_zero (l : List Int) : bigK 0 l = l := by simp [bigK, bigL]
theorem bigK_full (l : List Int) : bigK l.length l = bigL l := by simp [bigK]
theorem bigK_at (k : Nat) (l : List Int) (h : k < l.length) : rd (bigK k l) (k : Int) = rd l (k : Int) := by
  have hk : (bigL (l.take k)).length = k := by rw [bigL_length, List.length_take]; omega
  simp only [rd, bigK, List.getD_eq_getElem?_getD, Int.toNat_natCast]
  rw [List.getElem?_append_right (by omega), hk, Nat.sub_self, List.getElem?_drop, Nat.add_zero]
theorem bigK_set (k : Nat) (l : List Int) (h : k < l.length) (x : Int) (hx : bigC (rd l (k : Int)) = x) : (bigK k l).set k x = bigK (k + 1) l := by
  subst hx
  rw [rd_lt l k h]
  unfold bigK bigL
  have hk : ((l.take k).map bigC).length = k := by simp; omega
  rw [List.set_append_right _ _ (by omega), hk, Nat.sub_self, List.take_succ_eq_append_getElem h, List.drop_eq_getElem_cons h, List.set_cons_zero, List.map_append]
  simp
theorem bigK_same (k : Nat) (l : List Int) (h : k < l.length) (hx : bigC (rd l (k : Int)) = rd l (k : Int)) : bigK k l = bigK (k + 1) l := by
  rw [← bigK_set k l h _ hx]
  have h2 := bigK_at k l h
  rw [rd_lt _ k (by rw [bigK_length]; exact h)] at h2
  rw [← h2, List.set_getElem_self]
set_option maxRecDepth 100000 in
set_option maxHeartbeats 1000000 in
theorem big_raw (s : ByteArray) (w : World) (hs : s.size ≤ 9223372036854775807) :
    Calls Try.prog 20 #[.string s] w fun e w' => e = .returned (.string (bigS s)) ∧ Below w.heap.size w w' := by
  have kb := fun W => print_bytes (P := Try.prog) 9 39 5 Try.underlying9 Try.underlying39 Try.underlying5 s W
  have HL : Hid (bytesOf s = bytesOf s) := Lib.hid rfl
  have HBL := Lib.hid (bytesOf_length s)
  have HS : Hid (bigS s = strOfNums (bigL (bytesOf s))) := Lib.hid rfl
  have HBY := Lib.hid (bytesOf_bytes s)
  have HN := Lib.hid (blkB_new w 5 s hs)
  have HB0 := Lib.hid (bytes_below (Below.refl w.heap.size w) (Nat.le_refl _) 5 s)
  go_enter Try.func20, Try.ntmps20
  go_wp2
  clear kb
  generalize Lib.bytesWorld w 5 s = w1 at *
  generalize bytesOf s = L at *
  generalize grownCap w s.size 0 5 = cap at *
  go_loopw [4] (fun s4 wr => ∃ k : Nat, k ≤ s.size ∧ s4 = .int .i64 k ∧ Hid (Below w.heap.size w wr) ∧ Hid (BlkB wr w.heap.size (bigK k L))) (fun s4 _ => s.size - (intOf s4).toNat)
  case atStart => exact ⟨0, Nat.zero_le _, rfl, HB0, Lib.hid (by rw [bigK_zero]; exact HN.out)⟩
  case round =>
    obtain ⟨k, hk, rfl, HB, HK⟩ := hrel
    by_cases hlt : k < s.size
    · have hkl : k < L.length := by have := HBL.out; omega
      obtain ⟨hcell, hfz⟩ := HK.out.cell k (by rw [bigK_length]; exact hkl)
      rw [bigK_at k L hkl] at hcell
      have hr := HBY.out.rd k
      have HSET := Lib.hid (bigK_set k L hkl)
      have HSAME := Lib.hid (bigK_same k L hkl)
      generalize rd L (k : Int) = c at *
      obtain ⟨hc0, hc1⟩ := hr
      clear hkl
      by_cases h1 : 97 ≤ c
      · by_cases h2 : c ≤ 122
        · go_wp2
          go_round
          case rel =>
            refine ⟨k + 1, by omega, by simp, Lib.hid (HB.out.setCell (Nat.le_refl _) _), Lib.hid ?_⟩
            rw [← HSET.out (c - 32) (by unfold bigC; rw [if_pos ⟨h1, h2⟩])]
            exact HK.out.set k _
          case measure => simp [intOf]; omega
        · go_wp2
          go_round
          case rel => exact ⟨k + 1, by omega, by simp, HB, Lib.hid (by rw [← HSAME.out (by unfold bigC; rw [if_neg (by omega)])]; exact HK.out)⟩
          case measure => simp [intOf]; omega
      · go_wp2
        go_round
        case rel => exact ⟨k + 1, by omega, by simp, HB, Lib.hid (by rw [← HSAME.out (by unfold bigC; rw [if_neg (by omega)])]; exact HK.out)⟩
        case measure => simp [intOf]; omega
    · obtain rfl : k = s.size := by omega
      have HF : Hid (BlkB wr w.heap.size (bigL L)) := Lib.hid (by have h := HK.out; rw [← HBL.out, bigK_full] at h; exact h)
      have kcv := string_of_reads (P := Try.prog) (c := cap) Try.underlying39 Try.underlying5 Try.underlying9 HF.out.reads
      rw [bigL_length, HBL.out] at kcv
      go_wp2
      go_ret
      exact ⟨by rw [HS.out]; rfl, HB.out⟩
theorem big_any (l : List Int) (hby : Bytes l) (hl : l.length ≤ 9223372036854775807) (w : World) :
    Calls Try.prog 20 #[.string (St l)] w fun e w' => e = .returned (.string (St (bigL l))) ∧ Below w.heap.size w w' := by
  have h := big_raw (St l) w (by rw [St_size]; exact hl)
  rwa [show bigS (St l) = St (bigL l) by unfold bigS; rw [bytesOf_St hby]; rfl] at h
/-! Plain: large letters are read as small ones. -/
theorem sgn_big : ∀ n : Fin 26, sgnB (65 + (n.val : Int)) = true := by decide
theorem big_lowC {c : Int} (h : lowC c = c) : lowC (bigC c) = c := by
  unfold lowC at h ⊢
  unfold bigC
  split at h <;> split <;> (try split) <;> omega
theorem big_low {l : List Int} (h : lowL l = l) : lowL (bigL l) = l := by
  induction l with
  | nil => rfl
  | cons c l ih =>
    simp only [lowL, List.map_cons, List.cons.injEq] at h
    have ih2 := ih h.2
    simp only [lowL, bigL, List.map_cons] at ih2 ⊢
    rw [ih2, big_lowC h.1]
theorem big_tok {l : List Int} (h : tokenB l = true) : tokenB (bigL l) = true := by
  obtain ⟨h1, h2, h3⟩ := (tokenB_iff l).1 h
  refine (tokenB_iff _).2 ⟨fun c hc => ?_, fun e => h2 (List.map_eq_nil_iff.1 e), by rw [bigL_length]; exact h3⟩
  simp only [bigL, List.mem_map] at hc
  obtain ⟨d, hd, rfl⟩ := hc
  unfold bigC
  split
  · rename_i hr
    have h := sgn_big ⟨(d - 97).toNat, by omega⟩
    rwa [show (65 : Int) + (((d - 97).toNat : Nat) : Int) = d - 32 by omega] at h
  · exact h1 d hd
def parBig (p : Pm) : List Int := [59] ++ bigL p.1 ++ [61] ++ valW p.2
def bigT (t s : List Int) (ps : List Pm) : List Int := bigL t ++ [47] ++ bigL s ++ ps.flatMap parBig
theorem param_gen {n : List Int} {p : Pm} {r : List Int} (ht : tokenB n = true) (hl : lowL n = p.1) (hr : NoSgn r) : paramL (n ++ [61] ++ valW p.2 ++ r) = (p.1, p.2, r, true) := by
  obtain ⟨p1, p2⟩ := p
  simp only at *
  obtain ⟨_, _, _, _, hs⟩ := token_ne ht
  have e : n ++ [61] ++ valW p2 ++ r = n ++ 61 :: (valW p2 ++ r) := by simp
  obtain ⟨a1, a2⟩ := tok_app (r := 61 :: (valW p2 ++ r)) hs (.inr ⟨61, _, rfl, by decide⟩)
  unfold paramL
  rw [e, a1, a2, cutP_hit]
  simp only
  by_cases hv : tokenB p2 = true
  · have e2 : valW p2 = p2 := by unfold valW; rw [if_pos hv]
    obtain ⟨c, t, rfl, hc, hs2⟩ := token_ne hv
    obtain ⟨b1, b2⟩ := tok_app hs2 hr
    have hh : hasP 34 (valW (c :: t) ++ r) = false := by
      rw [e2]
      unfold hasP
      rw [List.cons_append, cutP_miss _ (sgn_not_blank hc).2.2.1]; rfl
    rw [hh, if_neg (by decide), e2, b1, b2, hl, hv]
  · have e2 : valW p2 = 34 :: (escL p2 ++ [34]) := by unfold valW; rw [if_neg hv]; rfl
    have hh : hasP 34 (valW p2 ++ r) = true := by
      rw [e2]
      unfold hasP
      rw [List.cons_append, cutP_hit]; rfl
    rw [hh, if_pos rfl, e2]
    have e3 : (34 :: (escL p2 ++ [34]) ++ r).drop 1 = escL p2 ++ 34 :: r := by simp
    rw [e3, quoL_esc r p2 [], List.nil_append, hl]; rfl
theorem noSgn_big (ps : List Pm) : NoSgn (ps.flatMap parBig) := by
  rcases ps with _ | ⟨p, ps⟩
  · exact .inl rfl
  · exact .inr ⟨59, _, rfl, by decide⟩
theorem readP_big : ∀ (qs : List Pm) (f : Nat) (acc : List Pm), qs.length < f → (∀ q ∈ qs, smallB q.1 = true) → readP f (qs.flatMap parBig) acc = some (acc ++ qs)
  | [], f, acc, hf, _ => by
    obtain ⟨f, rfl⟩ : ∃ g, f = g + 1 := ⟨f - 1, by simp at hf; omega⟩
    rw [readP, List.flatMap_nil, if_pos (show blankL [] = [] from rfl), List.append_nil]
  | p :: qs, f, acc, hf, hq => by
    obtain ⟨f, rfl⟩ : ∃ g, f = g + 1 := ⟨f - 1, by simp at hf; omega⟩
    have hp := hq p List.mem_cons_self
    obtain ⟨ht, hlo⟩ := (smallB_iff p.1).1 hp
    have htb := big_tok ht
    obtain ⟨c, t, hc, hs, _⟩ := token_ne htb
    have e : (p :: qs).flatMap parBig = 59 :: (bigL p.1 ++ [61] ++ valW p.2 ++ qs.flatMap parBig) := by
      simp [parBig]
    have e2 : blankL (bigL p.1 ++ [61] ++ valW p.2 ++ qs.flatMap parBig) = bigL p.1 ++ [61] ++ valW p.2 ++ qs.flatMap parBig := by
      rw [hc]
      exact blankL_hit _ (blk_sgn hs)
    rw [readP, e, blankL_hit _ (by decide), if_neg (by simp), cutP_hit]
    simp only
    rw [e2, if_neg (by rw [hc]; simp), param_gen htb (big_low hlo) (noSgn_big qs), if_pos rfl, readP_big qs f _ (by simp at hf; omega) (fun q hq' => hq q (List.mem_cons_of_mem _ hq')), List.append_assoc]
    rfl
theorem big_len (ps : List Pm) : ps.length ≤ (ps.flatMap parBig).length := by
  induction ps with
  | nil => simp
  | cons p ps ih =>
    simp only [List.flatMap_cons, List.length_append, List.length_cons, parBig] at ih ⊢
    omega
theorem readK_big {t s : List Int} {ps : List Pm} (hR : rightB t s ps = true) : readK (bigT t s ps) = some (t, s, ps) := by
  have h := right_is hR
  obtain ⟨ht, htl⟩ := (smallB_iff t).1 h.t
  obtain ⟨hs, hsl⟩ := (smallB_iff s).1 h.s
  obtain ⟨c, t', hc, hc1, hts⟩ := token_ne (big_tok ht)
  obtain ⟨_, _, _, _, hss⟩ := token_ne (big_tok hs)
  have e : bigT t s ps = bigL t ++ 47 :: (bigL s ++ ps.flatMap parBig) := by simp [bigT]
  have eb : blankL (bigT t s ps) = bigL t ++ 47 :: (bigL s ++ ps.flatMap parBig) := by
    rw [e, hc]
    exact blankL_hit _ (blk_sgn hc1)
  obtain ⟨a1, a2⟩ := tok_app (r := 47 :: (bigL s ++ ps.flatMap parBig)) hts (.inr ⟨47, _, rfl, by decide⟩)
  obtain ⟨b1, b2⟩ := tok_app (r := ps.flatMap parBig) hss (noSgn_big ps)
  unfold readK
  rw [eb, a1, a2, cutP_hit]
  simp only
  rw [b1, b2, readP_big ps _ [] (by have := big_len ps; simp only [List.length_append]; omega) (fun q hq => (h.p q hq).1)]
  simp only [List.nil_append]
  rw [big_low htl, big_low hsl, if_pos hR]
theorem parBig_len (p : Pm) : (parBig p).length ≤ p.1.length + 2 * p.2.length + 5 := by
  have := valW_len p.2
  simp only [parBig, List.length_append, List.length_cons, List.length_nil, bigL_length]; omega
theorem parsBig_len (m : Nat) : ∀ ps : List Pm, (∀ p ∈ ps, p.1.length + 2 * p.2.length + 5 ≤ m) → (ps.flatMap parBig).length ≤ ps.length * m
  | [], _ => by simp
  | p :: ps, h => by
    have h1 := parBig_len p
    have h2 := h p List.mem_cons_self
    have h3 := parsBig_len m ps (fun q hq => h q (List.mem_cons_of_mem _ hq))
    simp only [List.flatMap_cons, List.length_append, List.length_cons, Nat.add_mul, Nat.one_mul]
    omega
theorem bigT_len {t s : List Int} {ps : List Pm} (h : RightIs t s ps) (k : Nat) : (bigT t s (ps.take k)).length ≤ 10000 := by
  have h1 := small_len h.t
  have h2 := small_len h.s
  have h3 := parsBig_len 581 (ps.take k) (fun p hp => by
    have hp := h.p p (List.mem_of_mem_take hp)
    have := small_len hp.1
    have := valueB_len hp.2
    omega)
  have h4 : (ps.take k).length ≤ 16 := Nat.le_trans (by rw [List.length_take]; omega) h.n
  have h5 : (ps.take k).length * 581 ≤ 16 * 581 := Nat.mul_le_mul_right _ h4
  simp only [bigT, List.length_append, List.length_cons, List.length_nil, bigL_length]
  omega
theorem bigT_succ (t s : List Int) (ps : List Pm) (k : Nat) (h : k < ps.length) : bigT t s (ps.take (k + 1)) = bigT t s (ps.take k) ++ parBig ps[k] := by
  rw [take_succ_at ps k h]
  unfold bigT
  rw [List.flatMap_append]
  simp only [List.append_assoc, List.flatMap_cons, List.flatMap_nil, List.append_nil]
theorem parBig_bytes {p : Pm} (h1 : Bytes p.1) (h2 : Bytes p.2) : Bytes (parBig p) := by
  unfold parBig
  exact bytes_app (bytes_app (bytes_app (one_bytes (by omega)) (bigL_bytes h1)) (one_bytes (by omega))) (valW_bytes h2)
theorem bigT_bytes {t s : List Int} {ps : List Pm} (h : KOk t s ps) : Bytes (bigT t s ps) := by
  unfold bigT
  refine bytes_app (bytes_app (bytes_app (bigL_bytes h.tb) (one_bytes (by omega))) (bigL_bytes h.sb)) fun x hx => ?_
  obtain ⟨p, hp, hx⟩ := List.mem_flatMap.1 hx
  exact parBig_bytes (h.p1 p hp).1 (h.p2 p hp).1 x hx
/-- A value alone may stand in a kind a/b. -/
theorem one_right {v : List Int} (h : valueB v = true) : rightB [97] [98] [([110], v)] = true := by
  unfold rightB
  rw [parB_step]
  simp only [Bool.and_eq_true, decide_eq_true_eq]
  exact ⟨⟨by decide, h, by simp, rfl⟩, by decide, by decide, by simp⟩
theorem one_write (v : List Int) : writeL [97] [98] [([110], v)] = [97, 47, 98, 59, 32, 110, 61] ++ valW v := by
  simp [writeL, parW]
end Go.Proofs.Ytdnehnjcbdkgcaa
namespace Go.Proofs.Ytdnehnjcbdkgcaa
set_option linter.unusedVariables false
set_option linter.unusedSimpArgs false
open Go.RowKit Go.Shelf Go.Proofs.YtdnehnjcbdkgcaaW.PrintWords Go.Proofs.YtdnehnjcbdkgcaaW.PrintLast PKindReads

/-- A call of a function value in a region that draws. -/
theorem goesT_ {P : Program} {ops : Array Oper} {Q : Exit → Act → World → Prop} {oi : Oper} {N : Option Tmp} {a : Act} {w : World} {K : Act → World → Prop} {f : FuncId} {fn : Func} {av : Array Operand} {ts : Array TypeId} {c : Operand} (hf : P.funcs[f]? = some fn) (hname : (fn.name == "runtime.NumGoroutine") = false) (hb : fn.body.isSome = true) (args : Array Value)
    (hw : Region.wanted oi (yielded ops a.tmps) = true) (hN : oi.dst = N) (hop : oi.op = .call { callee := .value c, args := av, argTypes := ts }) (hc : a.eval c = .func (.func f) #[] #[]) (hargs : av.map a.eval = args)
    (h : Calls P f args w fun e w' => ∃ v, e = .returned v ∧ K (a.put N v) w') : if Region.wanted oi (yielded ops a.tmps) = true then Oper.wp P oi a w K Q else K (a.put N undef) w := by
  refine call_ f args hw hN ?_ h
  have he := enters_ hf hname hb args w
  unfold execOp
  simp [hop, resolve, Deferred.ofValue, invoke, hc, hargs, he]
theorem PRow.one {w : World} (v : List Int) (n : List Int) : PRow (w.alloc (.cells #[.string (St n), .string (St v)] 42 (0, 0))) (some ⟨w.heap.size, 0, none⟩) [(n, v)] := by
  have hO : PO (w.alloc (.cells #[.string (St n), .string (St v)] 42 (0, 0))) 0 (.slice (some ⟨w.heap.size, 0, none⟩) 1 1) [(n, v)] :=
    ⟨rfl, .inr ⟨w.heap.size, 1, _, rfl, Nat.zero_le _, blk_new w _, Nat.le_refl _, by decide, rfl, rfl⟩⟩
  obtain ⟨A, c, h1, h2, h3⟩ := hO.reads
  injection h1 with e1 e2 e3
  rw [e1]
  exact h3
set_option maxRecDepth 100000 in
set_option maxHeartbeats 2000000 in
theorem letters_great (t s : List Int) (ps : List Pm) (A : Option Addr) (c : Nat) (w : World) (hk : GOk t s ps) (hP : PRow w A ps) (hc : ps.length ≤ c) (hg : greatB t s ps = true) :
    Calls Try.prog 7 #[.agg #[.string (St t), .string (St s), .slice A ps.length c]] w fun e w' => e = .returned (.bool true) ∧ Below w.heap.size w w' := by
  have HG := Lib.hid (fun (W : World) (hP : PRow W A ps) => great_any t s ps A c W hk hP hc)
  rw [hg] at HG
  have HP := Lib.hid hP
  clear hk hP hg
  generalize St t = st at *
  generalize St s = ss at *
  go_enter Try.func7, Try.ntmps7
  go_wp2_with (first
    | (go_at_call 12; ((with_reducible refine (HG.out _ (HP.out.alloc_ _)).mono ?_); rintro e w1 ⟨rfl, hB⟩; have HB1 := Lib.hid (below_then ((Below.refl w.heap.size w).alloc (Nat.le_refl _) _) ((Below.refl w.heap.size w).alloc (Nat.le_refl _) _).size hB); clear hB))
    | (go_at_call 8; ((with_reducible refine (alive_any _).mono ?_); rintro e w2 ⟨rfl, hB⟩; have HB2 := Lib.hid (below_then HB1.out HB1.out.size hB); clear hB)))
  go_ret
  exact ⟨rfl, HB2.out⟩
set_option maxRecDepth 100000 in
set_option maxHeartbeats 2000000 in
theorem letters_no (t s : List Int) (ps : List Pm) (A : Option Addr) (c : Nat) (w : World) (hk : GOk t s ps) (hP : PRow w A ps) (hc : ps.length ≤ c) (hg : greatB t s ps = false) (hr : rightB t s ps = false) :
    Calls Try.prog 7 #[.agg #[.string (St t), .string (St s), .slice A ps.length c]] w fun e w' => e = .returned (.bool true) ∧ Below w.heap.size w w' := by
  have hk2 := hk.kok hg
  have HG := Lib.hid (fun (W : World) (hP : PRow W A ps) => great_any t s ps A c W hk hP hc)
  rw [hg] at HG
  have HI := Lib.hid (fun (W : World) (hP : PRow W A ps) => right_any t s ps A c W hk2 hP hc)
  rw [hr] at HI
  have HP := Lib.hid hP
  clear hk hP hg hk2 hr
  generalize St t = st at *
  generalize St s = ss at *
  go_enter Try.func7, Try.ntmps7
  go_wp2_with (first
    | (go_at_call 12; ((with_reducible refine (HG.out _ (HP.out.alloc_ _)).mono ?_); rintro e w1 ⟨rfl, hB⟩; have HB1 := Lib.hid (below_then ((Below.refl w.heap.size w).alloc (Nat.le_refl _) _) ((Below.refl w.heap.size w).alloc (Nat.le_refl _) _).size hB); have HF1 := Lib.hid (blk_below (blk_new w _) hB); have HP1 := Lib.hid ((HP.out.alloc_ _).below hB); have k0 : w1.cell? ⟨w.heap.size, 0, none⟩ = some (.string st) := (blk_cell HF1.out 0).trans rfl; have k1 : w1.cell? ⟨w.heap.size, 1, none⟩ = some (.string ss) := (blk_cell HF1.out 1).trans rfl; have k2 : w1.cell? ⟨w.heap.size, 2, none⟩ = some (.slice A ps.length c) := (blk_cell HF1.out 2).trans rfl; clear hB))
    | (go_at_call 17; ((with_reducible refine (HI.out _ HP1.out).mono ?_); rintro e w2 ⟨rfl, hB⟩; have HB2 := Lib.hid (below_then HB1.out HB1.out.size hB); clear hB k0 k1 k2))
    | (go_at_call 8; ((with_reducible refine (alive_any _).mono ?_); rintro e w3 ⟨rfl, hB⟩; have HB3 := Lib.hid (below_then HB2.out HB2.out.size hB); clear hB)))
  go_ret
  exact ⟨rfl, HB3.out⟩
set_option maxRecDepth 100000 in
set_option maxHeartbeats 8000000 in
theorem letters_yes (t s : List Int) (ps : List Pm) (A : Option Addr) (c : Nat) (w : World) (hk : GOk t s ps) (hP : PRow w A ps) (hc : ps.length ≤ c) (hg : greatB t s ps = false) (hr : rightB t s ps = true) :
    Calls Try.prog 7 #[.agg #[.string (St t), .string (St s), .slice A ps.length c]] w fun e w' => e = .returned (.bool true) ∧ Below w.heap.size w w' := by
  have hk2 := hk.kok hg
  have hri := right_is hr
  have HRI := Lib.hid hri
  have HKO := Lib.hid hk2
  have HG := Lib.hid (fun (W : World) (hP : PRow W A ps) => great_any t s ps A c W hk hP hc)
  rw [hg] at HG
  have HI := Lib.hid (fun (W : World) (hP : PRow W A ps) => right_any t s ps A c W hk2 hP hc)
  rw [hr] at HI
  have hT := bigT_len hri ps.length
  rw [List.take_length] at hT
  have HR := Lib.hid (fun W => read_any (bigT t s ps) W (bigT_bytes hk2) (by omega))
  rw [readK_big hr] at HR
  unfold ReadEnds at HR
  simp only at HR
  have HS := Lib.hid (fun A A' c c' W hP hc hP' hc' => same_yes t s ps A A' c c' W hk2 hP hc hP' hc')
  have hts := small_len hri.t
  have hss := small_len hri.s
  have HBT := Lib.hid (fun W => big_any t hk2.tb (by omega) W)
  have HBS := Lib.hid (fun W => big_any s hk2.sb (by omega) W)
  have HLT := Lib.hid (fun W => show Calls Try.prog 21 #[.string (St (bigL t))] W fun e w' => e = .returned (.string (St t)) ∧ Below W.heap.size W w' from by
    obtain ⟨k, h⟩ := (lower_ev (bigL_bytes hk2.tb) (by rw [bigL_length]; omega)).get
    rw [big_low ((smallB_iff t).1 hri.t).2] at h
    exact posthornref04_Lower.calls k (St (bigL t)) (St t) W h)
  have HCAT : Hid (St (bigL t) ++ ⟨#[47]⟩ ++ St (bigL s) = St (bigT t s (ps.take 0))) := Lib.hid (by
    rw [show (⟨#[47]⟩ : ByteArray) = St [47] from rfl, St_append, St_append]
    simp [bigT])
  have hz1 := St_size (bigL t)
  have hz2 := St_size (bigL s)
  rw [bigL_length] at hz1 hz2
  have HC := Lib.hid hc
  have HP := Lib.hid hP
  have HSELF : Hid ((St t).toList == (St t).toList) := Lib.hid (by simp)
  clear hk hP hg hk2 hr hri hT
  generalize St (bigL t) = bt at *
  generalize St (bigL s) = bs at *
  have f1 : (9223372036854775807 < bt.size + 1) = False := eq_false (by omega)
  have f2 : (9223372036854775807 < bt.size + 1 + bs.size) = False := eq_false (by omega)
  clear hz1 hz2 hts hss
  generalize hst : St t = st at *
  generalize hsx : St s = ss at *
  clear hst hsx
  go_enter Try.func7, Try.ntmps7
  go_wp2_with (first
    | (go_at_call 12; ((with_reducible refine (HG.out _ (HP.out.alloc_ _)).mono ?_); rintro e w1 ⟨rfl, hB⟩; have HB1 := Lib.hid (below_then ((Below.refl w.heap.size w).alloc (Nat.le_refl _) _) ((Below.refl w.heap.size w).alloc (Nat.le_refl _) _).size hB); have HF1 := Lib.hid (blk_below (blk_new w _) hB); have HP1 := Lib.hid ((HP.out.alloc_ _).below hB); have k0 : w1.cell? ⟨w.heap.size, 0, none⟩ = some (.string st) := (blk_cell HF1.out 0).trans rfl; have k1 : w1.cell? ⟨w.heap.size, 1, none⟩ = some (.string ss) := (blk_cell HF1.out 1).trans rfl; have k2 : w1.cell? ⟨w.heap.size, 2, none⟩ = some (.slice A ps.length c) := (blk_cell HF1.out 2).trans rfl; clear hB))
    | (go_at_call 17; ((with_reducible refine (HI.out _ HP1.out).mono ?_); rintro e w2 ⟨rfl, hB⟩; have HB2 := Lib.hid (below_then HB1.out HB1.out.size hB); have HF2 := Lib.hid (blk_below HF1.out hB); have HP2 := Lib.hid (HP1.out.below hB); clear hB k0 k1 k2; have k0 : w2.cell? ⟨w.heap.size, 0, none⟩ = some (.string st) := (blk_cell HF2.out 0).trans rfl; have k1 : w2.cell? ⟨w.heap.size, 1, none⟩ = some (.string ss) := (blk_cell HF2.out 1).trans rfl)))
  -- W4
  refine start_ (n := 11) (S := fun w' => w'.cell? ⟨w.heap.size, 0, none⟩ = some (.string st) ∧ w'.cell? ⟨w.heap.size, 1, none⟩ = some (.string ss)) (ds := []) #[false, false, false, false, false, false, false, false, false, false, false] (by kernel_rfl) rfl rfl ⟨k0, k1⟩ (fun hHeld => ?_)
  refine pure_ (i := 0) (N := some 18) (v := ?_) (a' := ?_) #[true, false, false, false, false, false, false, false, false, false, false] rfl rfl (by kernel_rfl) (fun _ _ _ h => h) (Or.inl ⟨by rfl, ?_⟩) ?_ ?_
  rotate_left
  · intro w'
    go_simp
    with_reducible rfl
  rotate_left
  · simp only [Act.put, List.setIfInBounds_toArray, List.set_cons_zero, List.set_cons_succ, i64_w, i32_w]
    rfl
  refine pure_ (i := 1) (N := some 19) (v := ?_) (a' := ?_) #[true, true, false, false, false, false, false, false, false, false, false] rfl rfl (by kernel_rfl) (fun _ _ _ h => h) (Or.inl ⟨by rfl, ?_⟩) ?_ ?_
  rotate_left
  · intro w'
    go_simp
    with_reducible rfl
  rotate_left
  · simp only [Act.put, List.setIfInBounds_toArray, List.set_cons_zero, List.set_cons_succ, i64_w, i32_w]
    rfl
  refine pure_ (i := 5) (N := some 23) (v := ?_) (a' := ?_) #[true, true, false, false, false, true, false, false, false, false, false] rfl rfl (by kernel_rfl) (fun _ _ _ h => h) (Or.inl ⟨by rfl, ?_⟩) ?_ ?_
  rotate_left
  · intro w'
    go_simp
    with_reducible rfl
  rotate_left
  · simp only [Act.put, List.setIfInBounds_toArray, List.set_cons_zero, List.set_cons_succ, i64_w, i32_w]
    rfl
  refine pure_ (i := 6) (N := some 24) (v := ?_) (a' := ?_) #[true, true, false, false, false, true, true, false, false, false, false] rfl rfl (by kernel_rfl) (fun _ _ _ h => h) (Or.inl ⟨by rfl, ?_⟩) ?_ ?_
  rotate_left
  · intro w'
    go_simp
    with_reducible rfl
  rotate_left
  · simp only [Act.put, List.setIfInBounds_toArray, List.set_cons_zero, List.set_cons_succ, i64_w, i32_w]
    rfl
  refine take_ (i := 2) (N := some 20) (v := ?_) (a' := ?_) #[true, true, true, false, false, true, true, false, false, false, false] rfl rfl (by kernel_rfl) (fun _ _ _ h => h) (Or.inl ⟨by rfl, ?_⟩) hHeld ?_ ?_
  rotate_left
  · rintro w' ⟨s0, s1⟩
    go_simp
    with_reducible rfl
  rotate_left
  · simp only [Act.put, List.setIfInBounds_toArray, List.set_cons_zero, List.set_cons_succ, i64_w, i32_w]
    rfl
  refine take_ (i := 7) (N := some 25) (v := ?_) (a' := ?_) #[true, true, true, false, false, true, true, true, false, false, false] rfl rfl (by kernel_rfl) (fun _ _ _ h => h) (Or.inl ⟨by rfl, ?_⟩) hHeld ?_ ?_
  rotate_left
  · rintro w' ⟨s0, s1⟩
    go_simp
    with_reducible rfl
  rotate_left
  · simp only [Act.put, List.setIfInBounds_toArray, List.set_cons_zero, List.set_cons_succ, i64_w, i32_w]
    rfl
  refine one_ (i := 3) (N := some 21) #[true, true, true, true, false, true, true, true, false, false, false] rfl rfl (by kernel_rfl) (by decide) (fun K hK => ?_)
  refine goesT_ Try.func20 (by kernel_rfl) rfl #[.string st] (by rfl) rfl rfl (by rfl) (by simp only [List.map_toArray, List.map_cons, List.map_nil] <;> rfl) ?_
  with_reducible refine (HBT.out _).mono ?_
  rintro e w3 ⟨rfl, hB⟩
  refine ⟨_, rfl, ?_⟩
  have HX3 := Lib.hid (below_step (b_drew (Below.refl _ _)) hB)
  have HF3 := Lib.hid (blk_below HF2.out HX3.out)
  have HP3 := Lib.hid (HP2.out.below HX3.out)
  have HB3 := Lib.hid (below_then HB2.out HB2.out.size HX3.out)
  have c30 : w3.cell? ⟨w.heap.size, 0, none⟩ = some (.string st) := (blk_cell HF3.out 0).trans rfl
  have c31 : w3.cell? ⟨w.heap.size, 1, none⟩ = some (.string ss) := (blk_cell HF3.out 1).trans rfl
  clear hB
  refine hK.out _ _ ⟨c30, c31⟩ (fun hHeld => ?_)
  clear hK K
  refine norm_ (a' := ?_) ?_ ?_
  rotate_left
  · show Act.put _ (some 21) _ = _
    simp only [Act.put, List.setIfInBounds_toArray, List.set_cons_zero, List.set_cons_succ, i64_w, i32_w]
    rfl
  refine pure_ (i := 4) (N := some 22) (v := ?_) (a' := ?_) #[true, true, true, true, true, true, true, true, false, false, false] rfl rfl (by kernel_rfl) (fun _ _ _ h => h) (Or.inl ⟨by rfl, ?_⟩) ?_ ?_
  rotate_left
  · intro w'
    go_simp
    with_reducible rfl
  rotate_left
  · simp only [Act.put, List.setIfInBounds_toArray, List.set_cons_zero, List.set_cons_succ, i64_w, i32_w]
    rfl
  refine one_ (i := 8) (N := some 26) #[true, true, true, true, true, true, true, true, true, false, false] rfl rfl (by kernel_rfl) (by decide) (fun K hK => ?_)
  refine goesT_ Try.func20 (by kernel_rfl) rfl #[.string ss] (by rfl) rfl rfl (by rfl) (by simp only [List.map_toArray, List.map_cons, List.map_nil] <;> rfl) ?_
  with_reducible refine (HBS.out _).mono ?_
  rintro e w4 ⟨rfl, hB⟩
  refine ⟨_, rfl, ?_⟩
  have HX4 := Lib.hid hB
  have HF4 := Lib.hid (blk_below HF3.out HX4.out)
  have HP4 := Lib.hid (HP3.out.below HX4.out)
  have HB4 := Lib.hid (below_then HB3.out HB3.out.size HX4.out)
  have c40 : w4.cell? ⟨w.heap.size, 0, none⟩ = some (.string st) := (blk_cell HF4.out 0).trans rfl
  have c41 : w4.cell? ⟨w.heap.size, 1, none⟩ = some (.string ss) := (blk_cell HF4.out 1).trans rfl
  clear hB
  refine hK.out _ _ ⟨c40, c41⟩ (fun hHeld => ?_)
  clear hK K
  refine norm_ (a' := ?_) ?_ ?_
  rotate_left
  · show Act.put _ (some 26) _ = _
    simp only [Act.put, List.setIfInBounds_toArray, List.set_cons_zero, List.set_cons_succ, i64_w, i32_w]
    rfl
  refine pure_ (i := 9) (N := some 27) (v := ?_) (a' := ?_) #[true, true, true, true, true, true, true, true, true, true, false] rfl rfl (by kernel_rfl) (fun _ _ _ h => h) (Or.inl ⟨by rfl, ?_⟩) ?_ ?_
  rotate_left
  · intro w'
    go_simp
    with_reducible rfl
  rotate_left
  · simp only [Act.put, List.setIfInBounds_toArray, List.set_cons_zero, List.set_cons_succ, i64_w, i32_w]
    rfl
  refine pure_ (i := 10) (N := some 4) (v := ?_) (a' := ?_) #[true, true, true, true, true, true, true, true, true, true, true] rfl rfl (by kernel_rfl) (fun _ _ _ h => h) (Or.inl ⟨by rfl, ?_⟩) ?_ ?_
  rotate_left
  · intro w'
    go_simp
    with_reducible rfl
  rotate_left
  · simp only [Act.put, List.setIfInBounds_toArray, List.set_cons_zero, List.set_cons_succ, i64_w, i32_w]
    rfl
  refine done_ (by kernel_rfl) ?_
  go_wp2
  -- ENDW4
  rw [HCAT.out]
  go_loopw [4, 5] (fun s4 s5 wr => ∃ k : Nat, k ≤ ps.length ∧ s5 = .int .i64 k ∧ s4 = .string (St (bigT t s (ps.take k))) ∧ Hid (wr.heap[w.heap.size]? = some (.cells #[.string st, .string ss, .slice A ps.length c] 25 (0, 0))) ∧ Hid (PRow wr A ps) ∧ Hid (Below w.heap.size w wr)) (fun _ s5 _ => ps.length - (intOf s5).toNat)
  case atStart => exact ⟨0, Nat.zero_le _, rfl, rfl, HF4, HP4, HB4⟩
  case round =>
    obtain ⟨k, hk, rfl, rfl, HF, HP, HB⟩ := hrel
    clear HF1 HF2 HF3 HF4 HP1 HP2 HP3 HP4 HB1 HB2 HB3 HB4 HX3 HX4 k0 k1 c30 c31 c40 c41 hHeld HG HI
    have HLN := Lib.hid (bigT_len HRI.out k)
    have hn := HRI.out.n
    by_cases hlt : k < ps.length
    · have hsucc := bigT_succ t s ps k hlt
      have hP0 := HP.out
      obtain ⟨ad, rfl, hx0, hx1⟩ := HP.out.at_ k hlt
      have hp1 := HKO.out.p1 ps[k] (List.getElem_mem hlt)
      have hp2 := HKO.out.p2 ps[k] (List.getElem_mem hlt)
      have hpr := HRI.out.p ps[k] (List.getElem_mem hlt)
      have hl1 := small_len hpr.1
      have hl2 := valueB_len hpr.2
      generalize ps[k] = p at *
      obtain ⟨p1, p2⟩ := p
      simp only at hx0 hx1 hp1 hp2 hpr hl1 hl2
      have HBN := Lib.hid (fun W => big_any p1 hp1.1 (by omega) W)
      have hkv : KOk [97] [98] [([110], p2)] := ⟨fun x hx => by simp at hx; omega, fun x hx => by simp at hx; omega, by simp, by simp, by simp, fun q hq => by rw [List.mem_singleton.1 hq]; exact ⟨fun x hx => by simp at hx; omega, by simp⟩, fun q hq => by rw [List.mem_singleton.1 hq]; exact hp2⟩
      have HW := Lib.hid (fun (W : World) => write_yes [97] [98] [([110], p2)] (some ⟨W.heap.size, 0, none⟩) 1 (W.alloc (.cells #[.string (St [110]), .string (St p2)] 42 (0, 0))) hkv (PRow.one p2 [110]) (Nat.le_refl _) (one_right hpr.2))
      rw [one_write, show St [97] = ⟨#[97]⟩ from rfl, show St [98] = ⟨#[98]⟩ from rfl, show St [110] = ⟨#[110]⟩ from rfl, show ([([110], p2)] : List Pm).length = 1 from rfl] at HW
      have hvl := valW_len p2
      have hxs : (St ([97, 47, 98, 59, 32, 110, 61] ++ valW p2)).size = 7 + (valW p2).length := by rw [St_size]; simp; omega
      have HEX : Hid ((St ([97, 47, 98, 59, 32, 110, 61] ++ valW p2)).extract 7 (7 + (valW p2).length) = St (valW p2)) := Lib.hid (by
        rw [St_extract]
        congr 1
        rw [show 7 + (valW p2).length = ([97, 47, 98, 59, 32, 110, 61] ++ valW p2 : List Int).length by simp; omega, List.take_length]
        rfl)
      have hcat : St (bigT t s (ps.take k)) ++ ⟨#[59]⟩ ++ St (bigL p1) ++ ⟨#[61]⟩ ++ St (valW p2) = St (bigT t s (ps.take (k + 1))) := by
        rw [hsucc, show (⟨#[59]⟩ : ByteArray) = St [59] from rfl, show (⟨#[61]⟩ : ByteArray) = St [61] from rfl, St_append, St_append, St_append, St_append]
        simp [parBig]
      have HCB := Lib.hid hcat
      have hz1 := St_size (bigT t s (ps.take k))
      have hz2 := St_size (bigL p1)
      have hz3 := St_size (valW p2)
      rw [bigL_length] at hz2
      have hln := HLN.out
      clear hcat hsucc hp1 hp2 hpr hkv
      generalize St (bigT t s (ps.take k)) = acc at *
      generalize St (bigL p1) = bn at *
      generalize St (valW p2) = vv at *
      generalize St ([97, 47, 98, 59, 32, 110, 61] ++ valW p2) = x at *
      generalize (valW p2).length = vn at *
      generalize St p1 = q1 at *
      generalize hq2 : St p2 = q2 at *
      have h7 : (x.size < 7) = False := eq_false (by omega)
      have h7b : decide (x.size < 7) = false := decide_eq_false (by omega)
      have h7c : 7 ≤ x.size := by omega
      have f1 : (9223372036854775807 < acc.size + 1) = False := eq_false (by omega)
      have f2 : (9223372036854775807 < acc.size + 1 + bn.size) = False := eq_false (by omega)
      have f3 : (9223372036854775807 < acc.size + 1 + bn.size + 1) = False := eq_false (by omega)
      have f4 : (9223372036854775807 < acc.size + 1 + bn.size + 1 + vv.size) = False := eq_false (by omega)
      have hex : x.extract 7 x.size = vv := by rw [hxs]; exact HEX.out
      have k2 : wr.cell? ⟨w.heap.size, 2, none⟩ = some (.slice (some ad) ps.length c) := (blk_cell HF.out 2).trans rfl
      have HX0 := Lib.hid hx0
      clear hz1 hz2 hz3 hln hvl hl1 hl2 hxs HEX hq2 hP0
      go_wp2_with (first
        | (go_at_call 13; ((with_reducible refine (HW.out _).mono ?_); rintro e w5 ⟨rfl, hB⟩; have HF5 := Lib.hid (blk_below (blk_alloc HF.out _) hB); have HP5 := Lib.hid ((HP.out.alloc_ _).below hB); have HB5 := Lib.hid (below_then (HB.out.alloc HB.out.size _) (HB.out.alloc HB.out.size _).size hB); have m2 : w5.cell? ⟨w.heap.size, 2, none⟩ = some (.slice (some ad) ps.length c) := (blk_cell HF5.out 2).trans rfl; have m0 : w5.cell? (ad.add (k * 2)) = some (.string q1) := pw_cell_below hB (pw_cell_below ((Below.refl _ _).alloc (Nat.le_refl _) _) HX0.out); clear hB)))
      -- W11
      refine start_ (n := 16) (S := fun w' => w'.cell? ⟨w.heap.size, 2, none⟩ = some (.slice (some ad) ps.length c) ∧ w'.cell? (ad.add (k * 2)) = some (.string q1)) (ds := []) #[false, false, false, false, false, false, false, false, false, false, false, false, false, false, false, false] (by kernel_rfl) rfl rfl ⟨m2, m0⟩ (fun hHeld => ?_)
      refine pure_ (i := 0) (N := some 55) (v := ?_) (a' := ?_) #[true, false, false, false, false, false, false, false, false, false, false, false, false, false, false, false] rfl rfl (by kernel_rfl) (fun _ _ _ h => h) (Or.inl ⟨by rfl, ?_⟩) ?_ ?_
      rotate_left
      · intro w'
        go_simp
        with_reducible rfl
      rotate_left
      · simp only [Act.put, List.setIfInBounds_toArray, List.set_cons_zero, List.set_cons_succ, i64_w, i32_w]
        rfl
      refine pure_ (i := 1) (N := some 56) (v := ?_) (a' := ?_) #[true, true, false, false, false, false, false, false, false, false, false, false, false, false, false, false] rfl rfl (by kernel_rfl) (fun _ _ _ h => h) (Or.inl ⟨by rfl, ?_⟩) ?_ ?_
      rotate_left
      · intro w'
        go_simp
        with_reducible rfl
      rotate_left
      · simp only [Act.put, List.setIfInBounds_toArray, List.set_cons_zero, List.set_cons_succ, i64_w, i32_w]
        rfl
      refine pure_ (i := 2) (N := some 57) (v := ?_) (a' := ?_) #[true, true, true, false, false, false, false, false, false, false, false, false, false, false, false, false] rfl rfl (by kernel_rfl) (fun _ _ _ h => h) (Or.inl ⟨by rfl, ?_⟩) ?_ ?_
      rotate_left
      · intro w'
        go_simp
        with_reducible rfl
      rotate_left
      · simp only [Act.put, List.setIfInBounds_toArray, List.set_cons_zero, List.set_cons_succ, i64_w, i32_w]
        rfl
      refine pure_ (i := 3) (N := some 58) (v := ?_) (a' := ?_) #[true, true, true, true, false, false, false, false, false, false, false, false, false, false, false, false] rfl rfl (by kernel_rfl) (fun _ _ _ h => h) (Or.inl ⟨by rfl, ?_⟩) ?_ ?_
      rotate_left
      · intro w'
        go_simp
        with_reducible rfl
      rotate_left
      · simp only [Act.put, List.setIfInBounds_toArray, List.set_cons_zero, List.set_cons_succ, i64_w, i32_w]
        rfl
      refine pure_ (i := 5) (N := some 60) (v := ?_) (a' := ?_) #[true, true, true, true, false, true, false, false, false, false, false, false, false, false, false, false] rfl rfl (by kernel_rfl) (fun _ _ _ h => h) (Or.inl ⟨by rfl, ?_⟩) ?_ ?_
      rotate_left
      · intro w'
        go_simp
        with_reducible rfl
      rotate_left
      · simp only [Act.put, List.setIfInBounds_toArray, List.set_cons_zero, List.set_cons_succ, i64_w, i32_w]
        rfl
      refine pure_ (i := 12) (N := some 67) (v := ?_) (a' := ?_) #[true, true, true, true, false, true, false, false, false, false, false, false, true, false, false, false] rfl rfl (by kernel_rfl) (fun _ _ _ h => h) (Or.inl ⟨by rfl, ?_⟩) ?_ ?_
      rotate_left
      · intro w'
        go_simp
        with_reducible rfl
      rotate_left
      · simp only [Act.put, List.setIfInBounds_toArray, List.set_cons_zero, List.set_cons_succ, i64_w, i32_w]
        rfl
      refine pure_ (i := 13) (N := some 68) (v := ?_) (a' := ?_) #[true, true, true, true, false, true, false, false, false, false, false, false, true, true, false, false] rfl rfl (by kernel_rfl) (fun _ _ _ h => h) (Or.inl ⟨by rfl, ?_⟩) ?_ ?_
      rotate_left
      · intro w'
        go_simp
        with_reducible rfl
      rotate_left
      · simp only [Act.put, List.setIfInBounds_toArray, List.set_cons_zero, List.set_cons_succ, i64_w, i32_w]
        rfl
      refine take_ (i := 4) (N := some 59) (v := ?_) (a' := ?_) #[true, true, true, true, true, true, false, false, false, false, false, false, true, true, false, false] rfl rfl (by kernel_rfl) (fun _ _ _ h => h) (Or.inl ⟨by rfl, ?_⟩) hHeld ?_ ?_
      rotate_left
      · rintro w' ⟨s0, s1⟩
        go_simp
        with_reducible rfl
      rotate_left
      · simp only [Act.put, List.setIfInBounds_toArray, List.set_cons_zero, List.set_cons_succ, i64_w, i32_w]
        rfl
      refine pure_ (i := 6) (N := some 61) (v := ?_) (a' := ?_) #[true, true, true, true, true, true, true, false, false, false, false, false, true, true, false, false] rfl rfl (by kernel_rfl) (fun _ _ _ h => h) (Or.inl ⟨by rfl, ?_⟩) ?_ ?_
      rotate_left
      · intro w'
        go_simp
        with_reducible rfl
      rotate_left
      · simp only [Act.put, List.setIfInBounds_toArray, List.set_cons_zero, List.set_cons_succ, i64_w, i32_w]
        rfl
      refine pure_ (i := 7) (N := some 62) (v := ?_) (a' := ?_) #[true, true, true, true, true, true, true, true, false, false, false, false, true, true, false, false] rfl rfl (by kernel_rfl) (fun _ _ _ h => h) (Or.inl ⟨by rfl, ?_⟩) ?_ ?_
      rotate_left
      · intro w'
        go_simp
        with_reducible rfl
      rotate_left
      · simp only [Act.put, List.setIfInBounds_toArray, List.set_cons_zero, List.set_cons_succ, i64_w, i32_w]
        rfl
      refine take_ (i := 8) (N := some 63) (v := ?_) (a' := ?_) #[true, true, true, true, true, true, true, true, true, false, false, false, true, true, false, false] rfl rfl (by kernel_rfl) (fun _ _ _ h => h) (Or.inl ⟨by rfl, ?_⟩) hHeld ?_ ?_
      rotate_left
      · rintro w' ⟨s0, s1⟩
        go_simp
        with_reducible rfl
      rotate_left
      · simp only [Act.put, List.setIfInBounds_toArray, List.set_cons_zero, List.set_cons_succ, i64_w, i32_w]
        rfl
      refine one_ (i := 9) (N := some 64) #[true, true, true, true, true, true, true, true, true, true, false, false, true, true, false, false] rfl rfl (by kernel_rfl) (by decide) (fun K hK => ?_)
      refine goesT_ Try.func20 (by kernel_rfl) rfl #[.string q1] (by rfl) rfl rfl (by rfl) (by simp only [List.map_toArray, List.map_cons, List.map_nil] <;> rfl) ?_
      with_reducible refine (HBN.out _).mono ?_
      rintro e w6 ⟨rfl, hB⟩
      refine ⟨_, rfl, ?_⟩
      have HX6 := Lib.hid (below_step (b_drew (Below.refl _ _)) hB)
      have HF6 := Lib.hid (blk_below HF5.out HX6.out)
      have HP6 := Lib.hid (HP5.out.below HX6.out)
      have HB6 := Lib.hid (below_then HB5.out HB5.out.size HX6.out)
      have c62 : w6.cell? ⟨w.heap.size, 2, none⟩ = some (.slice (some ad) ps.length c) := (blk_cell HF6.out 2).trans rfl
      have c6n : w6.cell? (ad.add (k * 2)) = some (.string q1) := pw_cell_below HX6.out m0
      clear hB
      refine hK.out _ _ ⟨c62, c6n⟩ (fun hHeld => ?_)
      clear hK K
      refine norm_ (a' := ?_) ?_ ?_
      rotate_left
      · show Act.put _ (some 64) _ = _
        simp only [Act.put, List.setIfInBounds_toArray, List.set_cons_zero, List.set_cons_succ, i64_w, i32_w]
        rfl
      refine pure_ (i := 10) (N := some 65) (v := ?_) (a' := ?_) #[true, true, true, true, true, true, true, true, true, true, true, false, true, true, false, false] rfl rfl (by kernel_rfl) (fun _ _ _ h => h) (Or.inl ⟨by rfl, ?_⟩) ?_ ?_
      rotate_left
      · intro w'
        go_simp
        with_reducible rfl
      rotate_left
      · simp only [Act.put, List.setIfInBounds_toArray, List.set_cons_zero, List.set_cons_succ, i64_w, i32_w]
        rfl
      refine pure_ (i := 11) (N := some 66) (v := ?_) (a' := ?_) #[true, true, true, true, true, true, true, true, true, true, true, true, true, true, false, false] rfl rfl (by kernel_rfl) (fun _ _ _ h => h) (Or.inl ⟨by rfl, ?_⟩) ?_ ?_
      rotate_left
      · intro w'
        go_simp
        with_reducible rfl
      rotate_left
      · simp only [Act.put, List.setIfInBounds_toArray, List.set_cons_zero, List.set_cons_succ, i64_w, i32_w]
        rfl
      refine pure_ (i := 14) (N := some 69) (v := ?_) (a' := ?_) #[true, true, true, true, true, true, true, true, true, true, true, true, true, true, true, false] rfl rfl (by kernel_rfl) (fun _ _ _ h => h) (Or.inl ⟨by rfl, ?_⟩) ?_ ?_
      rotate_left
      · intro w'
        go_simp
        with_reducible rfl
      rotate_left
      · simp only [Act.put, List.setIfInBounds_toArray, List.set_cons_zero, List.set_cons_succ, i64_w, i32_w]
        rfl
      refine pure_ (i := 15) (N := some 4) (v := ?_) (a' := ?_) #[true, true, true, true, true, true, true, true, true, true, true, true, true, true, true, true] rfl rfl (by kernel_rfl) (fun _ _ _ h => h) (Or.inl ⟨by rfl, ?_⟩) ?_ ?_
      rotate_left
      · intro w'
        go_simp
        with_reducible rfl
      rotate_left
      · simp only [Act.put, List.setIfInBounds_toArray, List.set_cons_zero, List.set_cons_succ, i64_w, i32_w]
        rfl
      refine done_ (by kernel_rfl) ?_
      go_wp2
  -- ENDW11
      go_roundw
      case rel => (repeat apply Exists.intro); exact ⟨⟨k + 1, by omega, by go_num, by rw [HCB.out], HF6, HP6, HB6⟩, rfl⟩
      case measure => simp [intOf]; omega
    · obtain rfl : k = ps.length := by omega
      rw [List.take_length]
      have k2 : wr.cell? ⟨w.heap.size, 2, none⟩ = some (.slice A ps.length c) := (blk_cell HF.out 2).trans rfl
      generalize St (bigT t s ps) = tx at *
      go_wp2_with (first
        | (go_at_call 9; ((with_reducible refine (HR.out _).mono ?_); rintro e w5 ⟨v, rfl, hO, hB⟩; obtain ⟨A5, c5, rfl, hc5, hPR⟩ := hO.reads; have HQ5 := Lib.hid hPR; have HC5 := Lib.hid hc5; have HF5 := Lib.hid (blk_below HF.out hB); have HP5 := Lib.hid (HP.out.below hB); have HB5 := Lib.hid (below_then HB.out HB.out.size hB); clear hO hPR hB hc5)))
      have HF5b := Lib.hid (blk_alloc HF5.out (.cells #[.string st, .string ss, .slice A5 ps.length c5] 25 (0, 0)))
      have HG5b := Lib.hid (blk_new w5 (.cells #[.string st, .string ss, .slice A5 ps.length c5] 25 (0, 0)))
      have HP5b := Lib.hid (HP5.out.alloc_ (.cells #[.string st, .string ss, .slice A5 ps.length c5] 25 (0, 0)))
      have HQ5b := Lib.hid (HQ5.out.alloc_ (.cells #[.string st, .string ss, .slice A5 ps.length c5] 25 (0, 0)))
      have HB5b := Lib.hid (HB5.out.alloc HB5.out.size (.cells #[.string st, .string ss, .slice A5 ps.length c5] 25 (0, 0)))
      clear k2
      have k0 : (w5.alloc (.cells #[.string st, .string ss, .slice A5 ps.length c5] 25 (0, 0))).cell? ⟨w.heap.size, 0, none⟩ = some (.string st) := (blk_cell HF5b.out 0).trans rfl
      have k1 : (w5.alloc (.cells #[.string st, .string ss, .slice A5 ps.length c5] 25 (0, 0))).cell? ⟨w.heap.size, 1, none⟩ = some (.string ss) := (blk_cell HF5b.out 1).trans rfl
      have k2 : (w5.alloc (.cells #[.string st, .string ss, .slice A5 ps.length c5] 25 (0, 0))).cell? ⟨w.heap.size, 2, none⟩ = some (.slice A ps.length c) := (blk_cell HF5b.out 2).trans rfl
      have k3 : (w5.alloc (.cells #[.string st, .string ss, .slice A5 ps.length c5] 25 (0, 0))).cell? ⟨w5.heap.size, 0, none⟩ = some (.string st) := (blk_cell HG5b.out 0).trans rfl
      have k4 : (w5.alloc (.cells #[.string st, .string ss, .slice A5 ps.length c5] 25 (0, 0))).cell? ⟨w5.heap.size, 1, none⟩ = some (.string ss) := (blk_cell HG5b.out 1).trans rfl
      have k5 : (w5.alloc (.cells #[.string st, .string ss, .slice A5 ps.length c5] 25 (0, 0))).cell? ⟨w5.heap.size, 2, none⟩ = some (.slice A5 ps.length c5) := (blk_cell HG5b.out 2).trans rfl
      -- W13
      refine start_ (n := 21) (S := fun w' => w'.cell? ⟨w.heap.size, 0, none⟩ = some (.string st) ∧ w'.cell? ⟨w.heap.size, 1, none⟩ = some (.string ss) ∧ w'.cell? ⟨w.heap.size, 2, none⟩ = some (.slice A ps.length c) ∧ w'.cell? ⟨w5.heap.size, 0, none⟩ = some (.string st) ∧ w'.cell? ⟨w5.heap.size, 1, none⟩ = some (.string ss) ∧ w'.cell? ⟨w5.heap.size, 2, none⟩ = some (.slice A5 ps.length c5)) (ds := []) #[false, false, false, false, false, false, false, false, false, false, false, false, false, false, false, false, false, false, false, false, false] (by kernel_rfl) rfl rfl ⟨k0, k1, k2, k3, k4, k5⟩ (fun hHeld => ?_)
      refine one_ (i := 0) (N := some 75) #[true, false, false, false, false, false, false, false, false, false, false, false, false, false, false, false, false, false, false, false, false] rfl rfl (by kernel_rfl) (by decide) (fun K hK => ?_)
      refine goes_ Try.func8 (by kernel_rfl) rfl #[] (by rfl) rfl rfl (by simp only [List.map_toArray, List.map_cons, List.map_nil] <;> rfl) ?_
      with_reducible refine (alive_any _).mono ?_
      rintro e w6 ⟨rfl, hB⟩
      refine ⟨_, rfl, ?_⟩
      have HX6 := Lib.hid (below_step (b_drew (Below.refl _ _)) hB)
      have HF6 := Lib.hid (blk_below HF5b.out HX6.out)
      have HG6 := Lib.hid (blk_below HG5b.out HX6.out)
      have HP6 := Lib.hid (HP5b.out.below HX6.out)
      have HQ6 := Lib.hid (HQ5b.out.below HX6.out)
      have HB6 := Lib.hid (below_then HB5b.out HB5b.out.size HX6.out)
      have c60 : w6.cell? ⟨w.heap.size, 0, none⟩ = some (.string st) := (blk_cell HF6.out 0).trans rfl
      have c61 : w6.cell? ⟨w.heap.size, 1, none⟩ = some (.string ss) := (blk_cell HF6.out 1).trans rfl
      have c62 : w6.cell? ⟨w.heap.size, 2, none⟩ = some (.slice A ps.length c) := (blk_cell HF6.out 2).trans rfl
      have c63 : w6.cell? ⟨w5.heap.size, 0, none⟩ = some (.string st) := (blk_cell HG6.out 0).trans rfl
      have c64 : w6.cell? ⟨w5.heap.size, 1, none⟩ = some (.string ss) := (blk_cell HG6.out 1).trans rfl
      have c65 : w6.cell? ⟨w5.heap.size, 2, none⟩ = some (.slice A5 ps.length c5) := (blk_cell HG6.out 2).trans rfl
      clear hB
      refine hK.out _ _ ⟨c60, c61, c62, c63, c64, c65⟩ (fun hHeld => ?_)
      clear hK K
      refine norm_ (a' := ?_) ?_ ?_
      rotate_left
      · show Act.put _ (some 75) _ = _
        simp only [Act.put, List.setIfInBounds_toArray, List.set_cons_zero, List.set_cons_succ, i64_w, i32_w]
        rfl
      refine pure_ (i := 1) (N := some 76) (v := ?_) (a' := ?_) #[true, true, false, false, false, false, false, false, false, false, false, false, false, false, false, false, false, false, false, false, false] rfl rfl (by kernel_rfl) (fun _ _ _ h => h) (Or.inl ⟨by rfl, ?_⟩) ?_ ?_
      rotate_left
      · intro w'
        go_simp
        with_reducible rfl
      rotate_left
      · simp only [Act.put, List.setIfInBounds_toArray, List.set_cons_zero, List.set_cons_succ, i64_w, i32_w]
        rfl
      refine pure_ (i := 2) (N := some 77) (v := ?_) (a' := ?_) #[true, true, true, false, false, false, false, false, false, false, false, false, false, false, false, false, false, false, false, false, false] rfl rfl (by kernel_rfl) (fun _ _ _ h => h) (Or.inl ⟨by rfl, ?_⟩) ?_ ?_
      rotate_left
      · intro w'
        go_simp
        with_reducible rfl
      rotate_left
      · simp only [Act.put, List.setIfInBounds_toArray, List.set_cons_zero, List.set_cons_succ, i64_w, i32_w]
        rfl
      refine pure_ (i := 3) (N := some 78) (v := ?_) (a' := ?_) #[true, true, true, true, false, false, false, false, false, false, false, false, false, false, false, false, false, false, false, false, false] rfl rfl (by kernel_rfl) (fun _ _ _ h => h) (Or.inl ⟨by rfl, ?_⟩) ?_ ?_
      rotate_left
      · intro w'
        go_simp
        with_reducible rfl
      rotate_left
      · simp only [Act.put, List.setIfInBounds_toArray, List.set_cons_zero, List.set_cons_succ, i64_w, i32_w]
        rfl
      refine pure_ (i := 4) (N := some 79) (v := ?_) (a' := ?_) #[true, true, true, true, true, false, false, false, false, false, false, false, false, false, false, false, false, false, false, false, false] rfl rfl (by kernel_rfl) (fun _ _ _ h => h) (Or.inl ⟨by rfl, ?_⟩) ?_ ?_
      rotate_left
      · intro w'
        go_simp
        with_reducible rfl
      rotate_left
      · simp only [Act.put, List.setIfInBounds_toArray, List.set_cons_zero, List.set_cons_succ, i64_w, i32_w]
        rfl
      refine pure_ (i := 5) (N := some 80) (v := ?_) (a' := ?_) #[true, true, true, true, true, true, false, false, false, false, false, false, false, false, false, false, false, false, false, false, false] rfl rfl (by kernel_rfl) (fun _ _ _ h => h) (Or.inl ⟨by rfl, ?_⟩) ?_ ?_
      rotate_left
      · intro w'
        go_simp
        with_reducible rfl
      rotate_left
      · simp only [Act.put, List.setIfInBounds_toArray, List.set_cons_zero, List.set_cons_succ, i64_w, i32_w]
        rfl
      refine take_ (i := 6) (N := some 81) (v := ?_) (a' := ?_) #[true, true, true, true, true, true, true, false, false, false, false, false, false, false, false, false, false, false, false, false, false] rfl rfl (by kernel_rfl) (fun _ _ _ h => h) (Or.inl ⟨by rfl, ?_⟩) hHeld ?_ ?_
      rotate_left
      · rintro w' ⟨s0, s1, s2, s3, s4, s5⟩
        go_simp
        with_reducible rfl
      rotate_left
      · simp only [Act.put, List.setIfInBounds_toArray, List.set_cons_zero, List.set_cons_succ, i64_w, i32_w]
        rfl
      refine take_ (i := 7) (N := some 82) (v := ?_) (a' := ?_) #[true, true, true, true, true, true, true, true, false, false, false, false, false, false, false, false, false, false, false, false, false] rfl rfl (by kernel_rfl) (fun _ _ _ h => h) (Or.inl ⟨by rfl, ?_⟩) hHeld ?_ ?_
      rotate_left
      · rintro w' ⟨s0, s1, s2, s3, s4, s5⟩
        go_simp
        with_reducible rfl
      rotate_left
      · simp only [Act.put, List.setIfInBounds_toArray, List.set_cons_zero, List.set_cons_succ, i64_w, i32_w]
        rfl
      refine one_ (i := 8) (N := some 83) #[true, true, true, true, true, true, true, true, true, false, false, false, false, false, false, false, false, false, false, false, false] rfl rfl (by kernel_rfl) (by decide) (fun K hK => ?_)
      refine goes_ Try.func11 (by kernel_rfl) rfl #[.agg #[.string st, .string ss, .slice A5 ps.length c5], .agg #[.string st, .string ss, .slice A ps.length c]] (by rfl) rfl rfl (by simp only [List.map_toArray, List.map_cons, List.map_nil] <;> rfl) ?_
      with_reducible refine (HS.out A5 A c5 c _ HQ6.out HC5.out HP6.out HC.out).mono ?_
      rintro e w7 ⟨rfl, hB⟩
      refine ⟨_, rfl, ?_⟩
      have HX7 := Lib.hid hB
      have HF7 := Lib.hid (blk_below HF6.out HX7.out)
      have HG7 := Lib.hid (blk_below HG6.out HX7.out)
      have HP7 := Lib.hid (HP6.out.below HX7.out)
      have HQ7 := Lib.hid (HQ6.out.below HX7.out)
      have HB7 := Lib.hid (below_then HB6.out HB6.out.size HX7.out)
      have c70 : w7.cell? ⟨w.heap.size, 0, none⟩ = some (.string st) := (blk_cell HF7.out 0).trans rfl
      have c71 : w7.cell? ⟨w.heap.size, 1, none⟩ = some (.string ss) := (blk_cell HF7.out 1).trans rfl
      have c72 : w7.cell? ⟨w.heap.size, 2, none⟩ = some (.slice A ps.length c) := (blk_cell HF7.out 2).trans rfl
      have c73 : w7.cell? ⟨w5.heap.size, 0, none⟩ = some (.string st) := (blk_cell HG7.out 0).trans rfl
      have c74 : w7.cell? ⟨w5.heap.size, 1, none⟩ = some (.string ss) := (blk_cell HG7.out 1).trans rfl
      have c75 : w7.cell? ⟨w5.heap.size, 2, none⟩ = some (.slice A5 ps.length c5) := (blk_cell HG7.out 2).trans rfl
      clear hB
      refine hK.out _ _ ⟨c70, c71, c72, c73, c74, c75⟩ (fun hHeld => ?_)
      clear hK K
      refine norm_ (a' := ?_) ?_ ?_
      rotate_left
      · show Act.put _ (some 83) _ = _
        simp only [Act.put, List.setIfInBounds_toArray, List.set_cons_zero, List.set_cons_succ, i64_w, i32_w]
        rfl
      refine pure_ (i := 9) (N := some 84) (v := ?_) (a' := ?_) #[true, true, true, true, true, true, true, true, true, true, false, false, false, false, false, false, false, false, false, false, false] rfl rfl (by kernel_rfl) (fun _ _ _ h => h) (Or.inl ⟨by rfl, ?_⟩) ?_ ?_
      rotate_left
      · intro w'
        go_simp
        with_reducible rfl
      rotate_left
      · simp only [Act.put, List.setIfInBounds_toArray, List.set_cons_zero, List.set_cons_succ, i64_w, i32_w]
        rfl
      refine pure_ (i := 10) (N := some 85) (v := ?_) (a' := ?_) #[true, true, true, true, true, true, true, true, true, true, true, false, false, false, false, false, false, false, false, false, false] rfl rfl (by kernel_rfl) (fun _ _ _ h => h) (Or.inl ⟨by rfl, ?_⟩) ?_ ?_
      rotate_left
      · intro w'
        go_simp
        with_reducible rfl
      rotate_left
      · simp only [Act.put, List.setIfInBounds_toArray, List.set_cons_zero, List.set_cons_succ, i64_w, i32_w]
        rfl
      refine pure_ (i := 11) (N := some 86) (v := ?_) (a' := ?_) #[true, true, true, true, true, true, true, true, true, true, true, true, false, false, false, false, false, false, false, false, false] rfl rfl (by kernel_rfl) (fun _ _ _ h => h) (Or.inl ⟨by rfl, ?_⟩) ?_ ?_
      rotate_left
      · intro w'
        go_simp
        with_reducible rfl
      rotate_left
      · simp only [Act.put, List.setIfInBounds_toArray, List.set_cons_zero, List.set_cons_succ, i64_w, i32_w]
        rfl
      refine pure_ (i := 12) (N := some 87) (v := ?_) (a' := ?_) #[true, true, true, true, true, true, true, true, true, true, true, true, true, false, false, false, false, false, false, false, false] rfl rfl (by kernel_rfl) (fun _ _ _ h => h) (Or.inl ⟨by rfl, ?_⟩) ?_ ?_
      rotate_left
      · intro w'
        go_simp
        with_reducible rfl
      rotate_left
      · simp only [Act.put, List.setIfInBounds_toArray, List.set_cons_zero, List.set_cons_succ, i64_w, i32_w]
        rfl
      refine pure_ (i := 16) (N := some 91) (v := ?_) (a' := ?_) #[true, true, true, true, true, true, true, true, true, true, true, true, true, false, false, false, true, false, false, false, false] rfl rfl (by kernel_rfl) (fun _ _ _ h => h) (Or.inl ⟨by rfl, ?_⟩) ?_ ?_
      rotate_left
      · intro w'
        go_simp
        with_reducible rfl
      rotate_left
      · simp only [Act.put, List.setIfInBounds_toArray, List.set_cons_zero, List.set_cons_succ, i64_w, i32_w]
        rfl
      refine take_ (i := 13) (N := some 88) (v := ?_) (a' := ?_) #[true, true, true, true, true, true, true, true, true, true, true, true, true, true, false, false, true, false, false, false, false] rfl rfl (by kernel_rfl) (fun _ _ _ h => h) (Or.inl ⟨by rfl, ?_⟩) hHeld ?_ ?_
      rotate_left
      · rintro w' ⟨s0, s1, s2, s3, s4, s5⟩
        go_simp
        with_reducible rfl
      rotate_left
      · simp only [Act.put, List.setIfInBounds_toArray, List.set_cons_zero, List.set_cons_succ, i64_w, i32_w]
        rfl
      refine take_ (i := 17) (N := some 92) (v := ?_) (a' := ?_) #[true, true, true, true, true, true, true, true, true, true, true, true, true, true, false, false, true, true, false, false, false] rfl rfl (by kernel_rfl) (fun _ _ _ h => h) (Or.inl ⟨by rfl, ?_⟩) hHeld ?_ ?_
      rotate_left
      · rintro w' ⟨s0, s1, s2, s3, s4, s5⟩
        go_simp
        with_reducible rfl
      rotate_left
      · simp only [Act.put, List.setIfInBounds_toArray, List.set_cons_zero, List.set_cons_succ, i64_w, i32_w]
        rfl
      refine one_ (i := 14) (N := some 89) #[true, true, true, true, true, true, true, true, true, true, true, true, true, true, true, false, true, true, false, false, false] rfl rfl (by kernel_rfl) (by decide) (fun K hK => ?_)
      refine goesT_ Try.func20 (by kernel_rfl) rfl #[.string st] (by rfl) rfl rfl (by rfl) (by simp only [List.map_toArray, List.map_cons, List.map_nil] <;> rfl) ?_
      with_reducible refine (HBT.out _).mono ?_
      rintro e w8 ⟨rfl, hB⟩
      refine ⟨_, rfl, ?_⟩
      have HX8 := Lib.hid hB
      have HF8 := Lib.hid (blk_below HF7.out HX8.out)
      have HG8 := Lib.hid (blk_below HG7.out HX8.out)
      have HP8 := Lib.hid (HP7.out.below HX8.out)
      have HQ8 := Lib.hid (HQ7.out.below HX8.out)
      have HB8 := Lib.hid (below_then HB7.out HB7.out.size HX8.out)
      have c80 : w8.cell? ⟨w.heap.size, 0, none⟩ = some (.string st) := (blk_cell HF8.out 0).trans rfl
      have c81 : w8.cell? ⟨w.heap.size, 1, none⟩ = some (.string ss) := (blk_cell HF8.out 1).trans rfl
      have c82 : w8.cell? ⟨w.heap.size, 2, none⟩ = some (.slice A ps.length c) := (blk_cell HF8.out 2).trans rfl
      have c83 : w8.cell? ⟨w5.heap.size, 0, none⟩ = some (.string st) := (blk_cell HG8.out 0).trans rfl
      have c84 : w8.cell? ⟨w5.heap.size, 1, none⟩ = some (.string ss) := (blk_cell HG8.out 1).trans rfl
      have c85 : w8.cell? ⟨w5.heap.size, 2, none⟩ = some (.slice A5 ps.length c5) := (blk_cell HG8.out 2).trans rfl
      clear hB
      refine hK.out _ _ ⟨c80, c81, c82, c83, c84, c85⟩ (fun hHeld => ?_)
      clear hK K
      refine norm_ (a' := ?_) ?_ ?_
      rotate_left
      · show Act.put _ (some 89) _ = _
        simp only [Act.put, List.setIfInBounds_toArray, List.set_cons_zero, List.set_cons_succ, i64_w, i32_w]
        rfl
      refine one_ (i := 15) (N := some 90) #[true, true, true, true, true, true, true, true, true, true, true, true, true, true, true, true, true, true, false, false, false] rfl rfl (by kernel_rfl) (by decide) (fun K hK => ?_)
      refine goes_ Try.func21 (by kernel_rfl) rfl #[.string bt] (by rfl) rfl rfl (by simp only [List.map_toArray, List.map_cons, List.map_nil] <;> rfl) ?_
      with_reducible refine (HLT.out _).mono ?_
      rintro e w9 ⟨rfl, hB⟩
      refine ⟨_, rfl, ?_⟩
      have HX9 := Lib.hid hB
      have HF9 := Lib.hid (blk_below HF8.out HX9.out)
      have HG9 := Lib.hid (blk_below HG8.out HX9.out)
      have HP9 := Lib.hid (HP8.out.below HX9.out)
      have HQ9 := Lib.hid (HQ8.out.below HX9.out)
      have HB9 := Lib.hid (below_then HB8.out HB8.out.size HX9.out)
      have c90 : w9.cell? ⟨w.heap.size, 0, none⟩ = some (.string st) := (blk_cell HF9.out 0).trans rfl
      have c91 : w9.cell? ⟨w.heap.size, 1, none⟩ = some (.string ss) := (blk_cell HF9.out 1).trans rfl
      have c92 : w9.cell? ⟨w.heap.size, 2, none⟩ = some (.slice A ps.length c) := (blk_cell HF9.out 2).trans rfl
      have c93 : w9.cell? ⟨w5.heap.size, 0, none⟩ = some (.string st) := (blk_cell HG9.out 0).trans rfl
      have c94 : w9.cell? ⟨w5.heap.size, 1, none⟩ = some (.string ss) := (blk_cell HG9.out 1).trans rfl
      have c95 : w9.cell? ⟨w5.heap.size, 2, none⟩ = some (.slice A5 ps.length c5) := (blk_cell HG9.out 2).trans rfl
      clear hB
      refine hK.out _ _ ⟨c90, c91, c92, c93, c94, c95⟩ (fun hHeld => ?_)
      clear hK K
      refine norm_ (a' := ?_) ?_ ?_
      rotate_left
      · show Act.put _ (some 90) _ = _
        simp only [Act.put, List.setIfInBounds_toArray, List.set_cons_zero, List.set_cons_succ, i64_w, i32_w]
        rfl
      refine pure_ (i := 18) (N := some 93) (v := ?_) (a' := ?_) #[true, true, true, true, true, true, true, true, true, true, true, true, true, true, true, true, true, true, true, false, false] rfl rfl (by kernel_rfl) (fun _ _ _ h => h) (Or.inl ⟨by rfl, ?_⟩) ?_ ?_
      rotate_left
      · intro w'
        go_simp
        with_reducible rfl
      rotate_left
      · simp only [Act.put, List.setIfInBounds_toArray, List.set_cons_zero, List.set_cons_succ, i64_w, i32_w]
        rfl
      refine pure_ (i := 19) (N := some 94) (v := ?_) (a' := ?_) #[true, true, true, true, true, true, true, true, true, true, true, true, true, true, true, true, true, true, true, true, false] rfl rfl (by kernel_rfl) (fun _ _ _ h => h) (Or.inl ⟨by rfl, ?_⟩) ?_ ?_
      rotate_left
      · intro w'
        go_simp
        with_reducible rfl
      rotate_left
      · simp only [Act.put, List.setIfInBounds_toArray, List.set_cons_zero, List.set_cons_succ, i64_w, i32_w]
        rfl
      refine pure_ (i := 20) (N := some 2) (v := ?_) (a' := ?_) #[true, true, true, true, true, true, true, true, true, true, true, true, true, true, true, true, true, true, true, true, true] rfl rfl (by kernel_rfl) (fun _ _ _ h => h) (Or.inl ⟨by rfl, ?_⟩) ?_ ?_
      rotate_left
      · intro w'
        go_simp
        with_reducible rfl
      rotate_left
      · simp only [Act.put, List.setIfInBounds_toArray, List.set_cons_zero, List.set_cons_succ, i64_w, i32_w]
        rfl
      refine done_ (by kernel_rfl) ?_
      go_wp2
      go_ret
      exact ⟨rfl, HB9.out⟩
  -- ENDW13
theorem letters_law (t s : List Int) (ps : List Pm) (A : Option Addr) (c : Nat) (w : World) (hP : PRow w A ps) (hc : ps.length ≤ c) (hk : GOk t s ps) :
    Calls Try.prog 7 #[.agg #[.string (St t), .string (St s), .slice A ps.length c]] w fun e w' => e = .returned (.bool true) ∧ Below w.heap.size w w' := by
  rcases hg : greatB t s ps with _ | _
  · rcases hr : rightB t s ps with _ | _
    · exact letters_no t s ps A c w hk hP hc hg hr
    · exact letters_yes t s ps A c w hk hP hc hg hr
  · exact letters_great t s ps A c w hk hP hc hg
end Go.Proofs.Ytdnehnjcbdkgcaa
