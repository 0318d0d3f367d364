/- The disk: alive. -/
import Derived.Test.YtfjeincceglfoaaDk12
namespace Go.Proofs.Ytfjeincceglfoaa
open Go.RowKit Go.Proofs.YtfjeincceglfoaaW.PrintWords

theorem LD.below {w0 w w' : World} {b : Nat} {D : DS} (h : LD w0 w b D) (hB : Below w.heap.size w w') : LD w0 w' b D := by
  obtain ⟨fs, h1, h2, h3⟩ := h
  exact ⟨fs, h1.below hB, h2, below_then h3 h3.size hB⟩
theorem LD.cast {w0 w : World} {b : Nat} {D D' : DS} (h : LD w0 w b D) (e : D = D') : LD w0 w b D' := e ▸ h
theorem LD.all {w0 w : World} {b : Nat} {D : DS} (h : LD w0 w b D) : Below w0.heap.size w0 w := by
  obtain ⟨_, _, _, h⟩ := h; exact h
theorem LD.ok {w0 w : World} {b : Nat} {D : DS} (h : LD w0 w b D) : D.Ok := by
  obtain ⟨_, h, _⟩ := h; exact h.ok
theorem ld_write {w0 w1 w2 : World} {b : Nat} {D : DS} (h : LD w0 w1 b D) (hB : Below w1.heap.size w1 w2) (A : Option Addr) (c : Nat) (xs : List Int) (hO : ORow .u8 5 w2 w1.heap.size (.slice A xs.length c) xs) (hx : Bytes xs) (h0 : 0 < xs.length) (i : Int) (ha : D.after ≤ 9223372036854775807 ∧ D.pend.length ≤ 1000000000) {q : Int} {D' : DS} (hv : writeV D i xs = (q, D')) :
    Calls Try.prog 24 #[.pointer (some ⟨b, 0, none⟩), .int .i64 i, .slice A xs.length c] w2 fun e w' => e = .returned (.int .i64 q) ∧ LD w0 w' b D' := by
  obtain ⟨fs, h1, h2, h3⟩ := h
  obtain ⟨g, c', he, hr, hg, _⟩ := orow_form hO h0
  injection he with e1 e2 e3
  subst e1
  refine (write_any b D fs i _ c xs w2 (h1.below hB) ha.1 hr hx (fun ad had hf => ?_) ha.2).mono ?_
  · injection had with had
    subst had
    have h8 : g < w1.heap.size := h1.lt _ hf
    have h9 : w1.heap.size ≤ g := hg
    omega
  · rintro e w3 ⟨rfl, hE⟩
    rw [hv] at hE ⊢
    exact ⟨rfl, LD.eff h2 (below_then h3 h3.size hB) hE⟩
theorem ld_sync {w0 w : World} {b : Nat} {D : DS} (h : LD w0 w b D) (ha : D.after ≤ 9223372036854775807 ∧ D.pend.length ≤ 1000000000) {q : Int} {D' : DS} (hv : syncV D = (q, D')) :
    Calls Try.prog 13 #[.pointer (some ⟨b, 0, none⟩)] w fun e w' => e = .returned (.int .i64 q) ∧ LD w0 w' b D' := by
  obtain ⟨fs, h1, h2, h3⟩ := h
  refine (sync_any b D fs w h1 ha.1).mono ?_
  rw [hv]
  exact fun e w1 h9 => ⟨h9.1, LD.eff h2 h3 h9.2⟩
theorem ld_crash {w0 w : World} {b : Nat} {D : DS} (h : LD w0 w b D) (k t : Int) :
    Calls Try.prog 11 #[.pointer (some ⟨b, 0, none⟩), .int .i64 k, .int .i64 t] w fun e w' => e = .returned (.int .i64 0) ∧ LD w0 w' b (crashV D k t) := by
  obtain ⟨fs, h1, h2, h3⟩ := h
  exact (crash_any b D fs k t w h1).mono fun e w1 h9 => ⟨h9.1, LD.eff h2 h3 h9.2⟩
theorem ld_read {w0 w : World} {b : Nat} {D : DS} (h : LD w0 w b D) (i : Int) {q : Int} {xs : List Int} (hq : hasV D.size i = q) (hx : readR D i = xs) :
    Calls Try.prog 14 #[.pointer (some ⟨b, 0, none⟩), .int .i64 i] w (ReadPost w xs q) := by
  subst hq; subst hx
  obtain ⟨fs, h1, h2, h3⟩ := h
  exact read_any b D fs i w h1
theorem reads_lit {w : World} {g n : Nat} {xs : List Int} (h : ReadsInt w .u8 (some ⟨g, 0, none⟩) n xs) (j : Nat) (hj : j < n) {v : Int} (hv : rd xs (j : Int) = v) : w.cell? ⟨g, j, none⟩ = some (.int .u8 v) := by
  obtain ⟨ad, e, hc⟩ := h.at_ (j : Int) (by omega) (by omega)
  injection e with e
  subst e
  rw [hv] at hc
  simpa [Addr.add_lit] using hc
theorem orow_form_n {w : World} {base : Nat} {v : Value} {xs : List Int} (h : ORow .u8 5 w base v xs) {n : Nat} (hn : xs.length = n) (h0 : 0 < n) : ∃ g c, v = .slice (some ⟨g, 0, none⟩) n c ∧ ReadsInt w .u8 (some ⟨g, 0, none⟩) n xs ∧ base ≤ g ∧ g < w.heap.size := by
  subst hn; exact orow_form h h0
theorem ld_size {w0 w : World} {b : Nat} {D : DS} (h : LD w0 w b D) {n : Int} (hn : D.size = n) : Calls Try.prog 21 #[.pointer (some ⟨b, 0, none⟩)] w fun e w' => e = .returned (.int .i64 n) ∧ w = w' := by
  obtain ⟨fs, ⟨r, v, hd⟩, _⟩ := h
  subst hn
  exact size_any b D.size w ((blk_cell hd.blk 0).trans rfl) hd.ok.pos
theorem ld_cell {w0 w : World} {b : Nat} {D : DS} (h : LD w0 w b D) : w.cell? ⟨b, 0, none⟩ = some (.int .i64 D.size) := by
  obtain ⟨fs, ⟨r, v, hd⟩, _⟩ := h
  exact (blk_cell hd.blk 0).trans rfl
def ax1 : DS := { newD 2 with pend := [(0, bytesV 1 false)] }
def ax2 : DS := { newD 2 with sure := updS (fun _ => z256) 0 (bytesV 1 false) }
def ax3 : DS := { ax2 with pend := [(0, bytesV 100 false)] }
def ax4 : DS := crashV ax3 0 3
theorem ax_1 : writeV (newD 2) 0 (bytesV 1 false) = (0, ax1) := by
  unfold writeV
  rw [planV_np rfl, if_neg (by decide), if_neg (by rw [bytesV_len]; decide), if_neg (by decide)]
  rfl
theorem ax_2 : syncV ax1 = (0, ax2) := by
  unfold syncV
  rw [planV_np rfl, if_neg (by decide)]
  rfl
theorem ax_3 : writeV ax2 0 (bytesV 100 false) = (0, ax3) := by
  unfold writeV
  rw [planV_np rfl, if_neg (by decide), if_neg (by rw [bytesV_len]; decide), if_neg (by decide)]
  rfl
theorem ax_len : (readR ax4 0).length = 256 := by decide +kernel
theorem ax_r2 : rd (readR ax4 0) 2 = 102 := by decide +kernel
theorem ax_r3 : rd (readR ax4 0) 3 = 4 := by decide +kernel
theorem ax_h0 : hasV ax4.size 0 = 0 := by decide
theorem ax_h2 : hasV ax4.size 2 = 1 := by decide
theorem ax_r : readR ax4 2 = [] := by decide +kernel
set_option maxRecDepth 100000 in
set_option maxHeartbeats 4000000 in
theorem alive_any (w : World) : Calls Try.prog 10 #[] w fun e w' => e = .returned (.bool true) ∧ Below w.heap.size w w' := by
  have HN := Lib.hid (new_yes 2 w (by omega) (by omega))
  have HY1 := Lib.hid (fun W => bytes_any 0 0 0 0 1 false 0 W)
  have HY2 := Lib.hid (fun W => bytes_any 0 0 0 0 100 false 0 W)
  have HL1 : Hid (0 < (bytesV 1 false).length) := Lib.hid (by rw [bytesV_len]; decide)
  have HL2 : Hid (0 < (bytesV 100 false).length) := Lib.hid (by rw [bytesV_len]; decide)
  have HX1 := Lib.hid (bytesV_bytes 1 false)
  have HX2 := Lib.hid (bytesV_bytes 100 false)
  have A1 := Lib.hid ax_1
  have A2 := Lib.hid ax_2
  have A3 := Lib.hid ax_3
  have L4 := Lib.hid ax_len
  have L5 := Lib.hid ax_r2
  have L6 := Lib.hid ax_r3
  have L7 := Lib.hid ax_r
  have L8 := Lib.hid ax_h0
  have L9 := Lib.hid ax_h2
  have q1 : Hid (ax1.after ≤ 9223372036854775807 ∧ ax1.pend.length ≤ 1000000000) := Lib.hid (by decide)
  have q2 : Hid (ax2.after ≤ 9223372036854775807 ∧ ax2.pend.length ≤ 1000000000) := Lib.hid (by decide)
  have q0 : Hid ((newD 2).after ≤ 9223372036854775807 ∧ (newD 2).pend.length ≤ 1000000000) := Lib.hid (by decide)
  have H4 : Hid (ax4 = crashV ax3 0 3) := Lib.hid rfl
  have H4s : Hid (ax4.size = 2) := Lib.hid rfl
  generalize bytesV 1 false = x1 at *
  generalize bytesV 100 false = x2 at *
  generalize newD 2 = D0 at *
  generalize ax1 = D1 at *
  generalize ax2 = D2 at *
  generalize ax3 = D3 at *
  generalize ax4 = D4 at *
  go_enter Try.func10, Try.ntmps10
  go_wp2_with (first
    | (go_at_call 17; ((with_reducible refine HN.out.mono ?_); rintro e w1 ⟨b, rfl, hD, hB⟩; have HA0 : Hid (LD w w1 b D0) := Lib.hid ⟨_, hD, fun i hi => hi.1, hB⟩; clear hD hB))
    | ((with_reducible refine at_build (d := some 18) (.agg #[.int .i64 0, .int .i64 0, .int .i64 0, .int .i64 0, .int .u8 1, .bool false, .int .i64 0]) ?_ ?_); (exact fun W => by kernel_rfl))
    | ((with_reducible refine at_build (d := some 24) (.agg #[.int .i64 0, .int .i64 0, .int .i64 0, .int .i64 0, .int .u8 100, .bool false, .int .i64 0]) ?_ ?_); (exact fun W => by kernel_rfl))
    | (go_at_call 16; ((with_reducible refine (HY1.out _).mono ?_); rintro e w2 ⟨v1, rfl, hO, hB⟩; obtain ⟨g, c, rfl, hr, hg1, hg2⟩ := orow_form hO HL1.out; have HW := Lib.hid (ld_write HA0.out hB _ c x1 hO HX1.out HL1.out 0 q0.out A1.out); clear hO hB hr hg1 hg2))
    | (go_at_call 24; ((with_reducible refine HW.out.mono ?_); rintro e w3 ⟨rfl, hL⟩; have HA1 := Lib.hid hL; have HS := Lib.hid (ld_sync hL q1.out A2.out); clear hL))
    | (go_at_call 13; ((with_reducible refine HS.out.mono ?_); rintro e w4 ⟨rfl, hL⟩; have HA2 := Lib.hid hL; clear hL))
    | (go_at_call 16; ((with_reducible refine (HY2.out _).mono ?_); rintro e w5 ⟨v1, rfl, hO, hB⟩; obtain ⟨g2, c2, rfl, hr, hg1, hg2⟩ := orow_form hO HL2.out; have HW2 := Lib.hid (ld_write HA2.out hB _ c2 x2 hO HX2.out HL2.out 0 q2.out A3.out); clear hO hB hr hg1 hg2))
    | (go_at_call 24; ((with_reducible refine HW2.out.mono ?_); rintro e w6 ⟨rfl, hL⟩; have HC := Lib.hid (ld_crash hL 0 3); clear hL))
    | (go_at_call 11; ((with_reducible refine HC.out.mono ?_); rintro e w7 ⟨rfl, hL⟩; have HA4 := Lib.hid (hL.cast H4.out.symm); have HR := Lib.hid (ld_read HA4.out 0 L8.out rfl); clear hL))
    | (go_at_call 14; ((with_reducible refine HR.out.mono ?_); rintro e w8 ⟨v8, rfl, hO8, hB8⟩; obtain ⟨g8, c8, rfl, hr8, hg8, hg9⟩ := orow_form_n hO8 L4.out (by decide); have HA5 := Lib.hid (LD.below HA4.out hB8); have HR8 := Lib.hid hr8; have HR2 := Lib.hid (ld_read HA5.out 2 L9.out L7.out); clear hO8 hB8 hr8 hg8 hg9))
    | (go_at_call 14; ((with_reducible refine HR2.out.mono ?_); rintro e w9 ⟨v9, rfl, hO9, hB9⟩; have HA6 := Lib.hid (LD.below HA5.out hB9); have HR9 := Lib.hid (HR8.out.below hB9); have c92 : w9.cell? ⟨g8, 2, none⟩ = some (.int .u8 102) := reads_lit HR9.out 2 (by decide) L5.out; have c93 : w9.cell? ⟨g8, 3, none⟩ = some (.int .u8 4) := reads_lit HR9.out 3 (by decide) L6.out; have HSZ := Lib.hid (ld_size HA6.out H4s.out); clear hO9 hB9))
    | (go_at_call 21; ((with_reducible refine HSZ.out.mono ?_); rintro e w10 ⟨rfl, rfl⟩)))
  go_ret
  exact ⟨rfl, HA6.out.all⟩
end Go.Proofs.Ytfjeincceglfoaa
