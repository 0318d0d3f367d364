/- disk: the document's disk in memory; last, Copy, plan, Fail, New. -/
import Derived.Test.YtlmdghafiadgjaaDk14
namespace Go.Proofs.Ytlmdghafiadgjaa
set_option linter.unusedVariables false
set_option linter.unusedSimpArgs false
open Go.RowKit Go.Proofs.YtlmdghafiadgjaaW.PrintWords

/-- A write: its sector, its slice, its bytes. -/
structure En where
  at_ : Int
  v : Value
  xs : List Int
def ecells (e : En) : List Value := [.int .i64 e.at_, e.v]
def EsAt (w : World) (v : Value) (es : List En) : Prop := w.ownsRow 0 92 2 v es.length (es.flatMap ecells)
def EnAt (w : World) (e : En) : Prop := ORow .u8 5 w 0 e.v e.xs ∧ Blk e.xs
def prs (es : List En) : List (Int × List Int) := es.map fun e => (e.at_, e.xs)
/-- The document's disk, in plain terms. -/
structure RS where
  size : Int
  sure : List (Int × List Int)
  pend : List (Int × List Int)
  after : Int
  err : Int
structure RdV (w : World) (x : Nat) (vs vp : Value) (es ep : List En) (R : RS) (gs : Nat → Prop) : Prop where
  blk : w.heap[x]? = some (.cells #[.int .i64 R.size, vs, vp, .int .i64 R.after, .int .i64 R.err] 83 (0, 0))
  se : EsAt w vs es
  pe : EsAt w vp ep
  en : ∀ e ∈ es ++ ep, EnAt w e
  sep : vs.ownBlock = none ∨ vs.ownBlock ≠ vp.ownBlock
  sure : R.sure = prs es
  pend : R.pend = prs ep
  foot : ∀ i, gs i ↔ i = x ∨ vs.ownBlock = some i ∨ vp.ownBlock = some i ∨ ∃ e ∈ es ++ ep, e.v.ownBlock = some i
def own (e : En) : Option Nat := e.v.ownBlock
/-- The document's disk in block x: no two of its writes share their bytes. -/
def RefAt (w : World) (x : Nat) (R : RS) (gs : Nat → Prop) : Prop := ∃ vs vp es ep, RdV w x vs vp es ep R gs ∧ ((es ++ ep).map own).Nodup
theorem EnAt.form {w : World} {e : En} (h : EnAt w e) : ∃ g cap, e.v = .slice (some ⟨g, 0, none⟩) 256 cap ∧ 256 ≤ cap ∧ ∃ cur, w.heap[g]? = some (.cells cur 5 (0, 0)) := by
  obtain ⟨h1, h2, h3⟩ := h
  obtain ⟨g, cap, hv, hc⟩ := own_form h1 (by rw [h2]; decide)
  rw [h2] at hv hc
  rcases h1.2 with ⟨_, h4⟩ | ⟨g', cap', cur, he, _, hh, _⟩
  · omega
  · rw [hv] at he
    injection he with e1 e2 e3
    injection e1 with e1
    injection e1 with e1 _ _
    exact ⟨g, cap, hv, hc, cur, by rw [e1]; exact hh⟩
theorem EnAt.keep {w w' : World} {e : En} (h : EnAt w e) (hb : ∀ g, e.v.ownBlock = some g → w'.heap[g]? = w.heap[g]?) : EnAt w' e := ⟨own_keep h.1 hb, h.2⟩
theorem EnAt.one {w : World} {e : En} (h : EnAt w e) : ∀ u ∈ ecells e, u.oneCell' = true := by
  obtain ⟨g, cap, hv, _⟩ := h.form
  intro u hu
  simp only [ecells, List.mem_cons, List.not_mem_nil, or_false] at hu
  rcases hu with rfl | rfl
  · rfl
  · rw [hv]; rfl
theorem RdV.lt {w : World} {x : Nat} {vs vp : Value} {es ep : List En} {R : RS} {gs : Nat → Prop} (h : RdV w x vs vp es ep R gs) : ∀ i, gs i → i < w.heap.size := by
  intro i hi
  rcases (h.foot i).1 hi with rfl | hi | hi | ⟨e, he, hi⟩
  · exact blk_lt h.blk
  · exact own_lt h.se i hi
  · exact own_lt h.pe i hi
  · exact own_lt (h.en e he).1 i hi
theorem RdV.keep {w w' : World} {x : Nat} {vs vp : Value} {es ep : List En} {R : RS} {gs : Nat → Prop} (h : RdV w x vs vp es ep R gs) (hk : ∀ i, gs i → w'.heap[i]? = w.heap[i]?) : RdV w' x vs vp es ep R gs :=
  ⟨(hk x ((h.foot x).2 (.inl rfl))).trans h.blk, own_keep h.se (fun g hg => hk g ((h.foot g).2 (.inr (.inl hg)))), own_keep h.pe (fun g hg => hk g ((h.foot g).2 (.inr (.inr (.inl hg))))),
    fun e he => (h.en e he).keep (fun g hg => hk g ((h.foot g).2 (.inr (.inr (.inr ⟨e, he, hg⟩))))), h.sep, h.sure, h.pend, h.foot⟩
theorem RdV.below {w w' : World} {x : Nat} {vs vp : Value} {es ep : List En} {R : RS} {gs : Nat → Prop} (h : RdV w x vs vp es ep R gs) (hb : Below w.heap.size w w') : RdV w' x vs vp es ep R gs := h.keep fun i hi => hb.block i (h.lt i hi)
theorem RefAt.lt {w : World} {x : Nat} {R : RS} {gs : Nat → Prop} (h : RefAt w x R gs) : ∀ i, gs i → i < w.heap.size := by
  obtain ⟨vs, vp, es, ep, h, _⟩ := h; exact h.lt
theorem RefAt.keep {w w' : World} {x : Nat} {R : RS} {gs : Nat → Prop} (h : RefAt w x R gs) (hk : ∀ i, gs i → w'.heap[i]? = w.heap[i]?) : RefAt w' x R gs := by
  obtain ⟨vs, vp, es, ep, h, hn⟩ := h; exact ⟨vs, vp, es, ep, h.keep hk, hn⟩
theorem RefAt.below {w w' : World} {x : Nat} {R : RS} {gs : Nat → Prop} (h : RefAt w x R gs) (hb : Below w.heap.size w w') : RefAt w' x R gs := h.keep fun i hi => hb.block i (h.lt i hi)
/-- The disk's own block is none of those that it has besides. -/
theorem RdV.xne {w : World} {x : Nat} {vs vp : Value} {es ep : List En} {R : RS} {gs : Nat → Prop} (h : RdV w x vs vp es ep R gs) : some x ≠ vs.ownBlock ∧ some x ≠ vp.ownBlock ∧ ∀ e ∈ es ++ ep, some x ≠ e.v.ownBlock :=
  ⟨own_ne h.se h.blk (by decide), own_ne h.pe h.blk (by decide), fun e he => own_ne (h.en e he).1 h.blk (by decide)⟩
theorem own_apart {w : World} {base base' size size' n n' : Nat} {e e' : TypeId} {v v' : Value} {xs xs' : List Value} (h : w.ownsRow base e size v n xs) (h' : w.ownsRow base' e' size' v' n' xs') (hne : e ≠ e') : v.ownBlock = none ∨ v.ownBlock ≠ v'.ownBlock := by
  rcases h.2 with ⟨rfl, _⟩ | ⟨g, cap, cur, rfl, _, hh, _⟩
  · exact .inl rfl
  · exact .inr (fun he => own_ne h' hh hne.symm he)
/-- The disk's numbers alone are set. -/
theorem RdV.nums_ {w : World} {x : Nat} {vs vp : Value} {es ep : List En} {R R' : RS} {gs : Nat → Prop} (h : RdV w x vs vp es ep R gs) (j : Nat) (u : Value)
    (he : (#[.int .i64 R.size, vs, vp, .int .i64 R.after, .int .i64 R.err] : Array Value).setIfInBounds j u = #[.int .i64 R'.size, vs, vp, .int .i64 R'.after, .int .i64 R'.err]) (h1 : R'.sure = R.sure) (h2 : R'.pend = R.pend) : RdV (w.setCell ⟨x, j, none⟩ u) x vs vp es ep R' gs := by
  obtain ⟨n1, n2, n3⟩ := h.xne
  exact ⟨by rw [← he]; exact blk_set h.blk j u, own_setCell h.se n1 u, own_setCell h.pe n2 u, fun e hm => ⟨own_setCell (h.en e hm).1 (n3 e hm) u, (h.en e hm).2⟩, h.sep, by rw [h1]; exact h.sure, by rw [h2]; exact h.pend, h.foot⟩
/-- What becomes of the document's disk. -/
def REff (w : World) (x : Nat) (gs : Nat → Prop) (R' : RS) (w' : World) : Prop := ∃ gs', RefAt w' x R' gs' ∧ Frame gs w w' ∧ ∀ i, gs' i → gs i ∨ w.heap.size ≤ i
theorem RdV.self {w : World} {x : Nat} {vs vp : Value} {es ep : List En} {R : RS} {gs : Nat → Prop} (h : RdV w x vs vp es ep R gs) : gs x := (h.foot x).2 (.inl rfl)
/-- The bytes of a sector's last write of some. -/
def lastE : List En → Int → Value → Value
  | [], _, b => b
  | e :: es, i, b => lastE es i (if e.at_ = i then e.v else b)
theorem lastE_snoc (es : List En) (e : En) (i : Int) (b : Value) : lastE (es ++ [e]) i b = if e.at_ = i then e.v else lastE es i b := by
  induction es generalizing b with
  | nil => rfl
  | cons q es ih => rw [List.cons_append, lastE, ih, lastE]
theorem lastE_at {w : World} {es : List En} (h : ∀ e ∈ es, EnAt w e) (i : Int) {v : Value} {xs : List Int} (hv : ORow .u8 5 w 0 v xs) (hx : Blk xs) : ORow .u8 5 w 0 (lastE es i v) (nowP (prs es) i xs) ∧ Blk (nowP (prs es) i xs) := by
  induction es generalizing v xs with
  | nil => exact ⟨hv, hx⟩
  | cons e es ih =>
    have he := h e (by simp)
    have ih2 := fun {v xs} => ih (fun q hq => h q (by simp [hq])) (v := v) (xs := xs)
    rw [lastE]
    show ORow _ _ _ _ _ (nowP ((e.at_, e.xs) :: prs es) i xs) ∧ Blk (nowP ((e.at_, e.xs) :: prs es) i xs)
    rw [nowP]
    by_cases hi : e.at_ = i
    · rw [if_pos hi, if_pos hi]; exact ih2 he.1 he.2
    · rw [if_neg hi, if_neg hi]; exact ih2 hv hx
theorem ecells_at {es : List En} : ∀ {i : Nat} (hi : i < es.length), (es.flatMap ecells)[i * 2]? = some (.int .i64 es[i].at_) ∧ (es.flatMap ecells)[i * 2 + 1]? = some es[i].v := by
  induction es with
  | nil => intro i hi; simp at hi
  | cons e es ih =>
    intro i hi
    rw [List.flatMap_cons]
    have hl : (ecells e).length = 2 := rfl
    rcases i with _ | i
    · exact ⟨rfl, rfl⟩
    · obtain ⟨h1, h2⟩ := ih (i := i) (by simp at hi; omega)
      constructor
      · rw [List.getElem?_append_right (by omega), hl, show (i + 1) * 2 - 2 = i * 2 by omega]; exact h1
      · rw [List.getElem?_append_right (by omega), hl, show (i + 1) * 2 + 1 - 2 = i * 2 + 1 by omega]; exact h2
theorem EsAt.at_ {w : World} {g n c : Nat} {es : List En} (h : EsAt w (.slice (some ⟨g, 0, none⟩) n c) es) {i : Nat} (hi : i < es.length) : w.cell? ⟨g, i * 2, none⟩ = some (.int .i64 es[i].at_) ∧ w.cell? ⟨g, i * 2 + 1, none⟩ = some es[i].v := by
  obtain ⟨h1, h2⟩ := ecells_at hi
  have e : ∀ j, (⟨g, 0, none⟩ : Addr).add j = ⟨g, j, none⟩ := fun j => by unfold Addr.add; split <;> simp_all
  have a1 := h.cells (g := g) rfl _ _ h1
  have a2 := h.cells (g := g) rfl _ _ h2
  rw [e] at a1 a2
  exact ⟨a1, a2⟩
set_option maxRecDepth 100000 in
set_option maxHeartbeats 1000000 in
theorem last_any (es : List En) (v : Value) (i : Int) (vb : Value) (w : World) (h : EsAt w v es) :
    Calls Try.prog 53 #[v, .int .i64 i, vb] w fun e w' => e = .returned (lastE es i vb) ∧ w = w' := by
  obtain ⟨A, c, rfl⟩ := own_slice h
  have hmx := own_max h
  have H := Lib.hid h
  clear h
  go_enter Try.func53, Try.ntmps53
  go_wp2
  go_loop [2, 7] (fun s2 s7 => ∃ k : Nat, k ≤ es.length ∧ s7 = .int .i64 k ∧ s2 = lastE (es.take k) i vb) (fun _ s7 => es.length - (intOf s7).toNat)
  case atStart => exact ⟨0, Nat.zero_le _, rfl, rfl⟩
  case round =>
    obtain ⟨k, hk, rfl, rfl⟩ := hrel
    by_cases hlt : k < es.length
    · obtain ⟨g, cap, hv, hcap⟩ := own_form H.out (by omega)
      injection hv with e1 e2 e3
      subst e1
      obtain ⟨c0, c1⟩ := EsAt.at_ H.out hlt
      have hsn := lastE_snoc (es.take k) es[k] i vb
      rw [← List.take_succ_eq_append_getElem hlt] at hsn
      generalize es[k] = q at *
      by_cases hq : q.at_ = i
      · rw [if_pos hq] at hsn
        have HSN := Lib.hid hsn
        clear hsn
        go_wp2
        go_round
        case rel => exact ⟨k + 1, by omega, by go_num, HSN.out.symm⟩
        case measure => simp [intOf]; omega
      · rw [if_neg hq] at hsn
        have HSN := Lib.hid hsn
        clear hsn
        go_wp2
        go_round
        case rel => exact ⟨k + 1, by omega, by go_num, HSN.out.symm⟩
        case measure => simp [intOf]; omega
    · obtain rfl : k = es.length := by omega
      rw [List.take_length]
      go_wp2
      go_ret
      exact ⟨rfl, rfl⟩
set_option maxRecDepth 100000 in
set_option maxHeartbeats 1000000 in
theorem copy_any (A : Option Addr) (n c : Nat) (xs : List Int) (w : World) (h : ReadsInt w .u8 A n xs) (hn : n ≤ 100000) :
    Calls Try.prog 35 #[.slice A n c] w fun e w' => ∃ v, e = .returned v ∧ ORow .u8 5 w' w.heap.size v xs ∧ Below w.heap.size w w' := by
  have HR := Lib.hid h
  go_enter Try.func35, Try.ntmps35
  go_wp2_with (first
    | (at_builtin; refine print_append_row (w0 := w) w.heap.size rfl (.tmp 4) (.tmp 5) 23 5 .u8 1 rfl Try.underlying23 infoU8 (by decide) _ [] xs _ _ _ rfl rfl (ORow.nil _ _ _ _) HR.out (Below.refl _ _) (Nat.le_refl _) (by simp; omega) ?_; intro v1 w1 hO1 hB1 _ _; have HO1 := Lib.hid hO1; have HB1 := Lib.hid hB1; clear hO1 hB1))
  go_ret
  exact ⟨v1, rfl, HO1.out, HB1.out⟩
end Go.Proofs.Ytlmdghafiadgjaa
