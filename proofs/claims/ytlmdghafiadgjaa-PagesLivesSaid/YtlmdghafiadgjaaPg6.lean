/- pages: load, store, walked. -/
import Derived.Test.YtlmdghafiadgjaaPg5
namespace Go.Proofs.Ytlmdghafiadgjaa
set_option linter.unusedVariables false
set_option linter.unusedSimpArgs false
open Go.RowKit Go.Proofs.YtlmdghafiadgjaaW.PrintWords Go.Proofs.YtlmdghafiadgjaaW.PrintLast

def loadK (D : DS) (n : Int) : Nat → List Int
  | 0 => []
  | k + 1 => loadK D n k ++ readR D (n * 4 + (k : Int))
def loadV (D : DS) (n : Int) : List Int := loadK D n 4
theorem loadK_len (D : DS) (h : D.Ok) (n : Int) : ∀ k, (loadK D n k).length ≤ 256 * k
  | 0 => by simp [loadK]
  | k + 1 => by
    have := loadK_len D h n k
    have := (readR_bytes D h (n * 4 + (k : Int))).2
    simp only [loadK, List.length_append]; omega
theorem loadK_bytes (D : DS) (h : D.Ok) (n : Int) : ∀ k, Bytes (loadK D n k)
  | 0 => fun x hx => (List.not_mem_nil hx).elim
  | k + 1 => (loadK_bytes D h n k).append (readR_bytes D h _).1
set_option maxRecDepth 100000 in
set_option maxHeartbeats 2000000 in
theorem load_any (b : Nat) (D : DS) (fs : Nat → Prop) (n : Int) (w : World) (h : DiskAt w b D fs) (hn : 0 ≤ n) (hn2 : n ≤ 20000) :
    Calls Try.prog 42 #[.pointer (some ⟨b, 0, none⟩), .int .i64 n] w fun e w' => ∃ v, e = .returned v ∧ ORow .u8 5 w' w.heap.size v (loadV D n) ∧ Below w.heap.size w w' := by
  have HD := Lib.hid h
  have HO := Lib.hid h.ok
  have hw4 : wrap64 (n * 4) = n * 4 := wrap64_id _ (by omega) (by omega)
  clear h
  go_enter Try.func42, Try.ntmps42
  go_wp2
  go_loopw [5, 9] (fun s5 s9 wr => ∃ k : Nat, k ≤ 4 ∧ s9 = .int .i64 k ∧ Hid (ORow .u8 5 wr w.heap.size s5 (loadK D n k)) ∧ Hid (Below w.heap.size w wr)) (fun _ s9 _ => 4 - (intOf s9).toNat)
  case atStart => exact ⟨0, Nat.zero_le _, rfl, Lib.hid (ORow.nil _ _ _ _), Lib.hid (Below.refl _ _)⟩
  case round =>
    obtain ⟨k, hk, rfl, HR, HB⟩ := hrel
    by_cases hlt : k < 4
    · have hwk : wrap64 (n * 4 + (k : Int)) = n * 4 + (k : Int) := wrap64_id _ (by omega) (by omega)
      have HRD := Lib.hid (read_any b D fs (n * 4 + (k : Int)) wr (HD.out.below HB.out))
      have HL1 : Hid ((loadK D n k).length ≤ 1024) := Lib.hid (by have := loadK_len D HO.out n k; omega)
      have HL2 := Lib.hid (readR_bytes D HO.out (n * 4 + (k : Int))).2
      have HNX : Hid (loadK D n (k + 1) = loadK D n k ++ readR D (n * 4 + (k : Int))) := Lib.hid rfl
      generalize hasV D.size (n * 4 + (k : Int)) = hv at *
      generalize readR D (n * 4 + (k : Int)) = row at *
      generalize loadK D n k = acc at *
      go_wp2_with (first
        | (go_at_call 55; ((with_reducible refine HRD.out.mono ?_); rintro e w1 ⟨v1, rfl, hO1, hB1⟩; obtain ⟨A1, c1, rfl, hc1, hr1⟩ := hO1.reads; have HB1 := Lib.hid (below_then HB.out HB.out.size hB1); have HR1 := Lib.hid (HR.out.below (hB1)); have HX1 := Lib.hid hr1; have HS1 := Lib.hid hB1.size; clear hO1 hB1 hr1))
        | (at_builtin; refine print_append_row (w0 := w) w.heap.size rfl (.tmp 21) (.tmp 22) 23 5 .u8 1 rfl Try.underlying23 infoU8 (by decide) _ acc row _ _ _ rfl rfl HR1.out HX1.out HB1.out HB1.out.size (by have h1 := HL1.out; have h2 := HL2.out; omega) ?_; intro v4 w4 hO4 hb4 _ _; have HO4 := Lib.hid hO4; have HW4 := Lib.hid hb4; clear hO4 hb4))
      go_roundw
      case rel => exact ⟨k + 1, hlt, by go_num, Lib.hid (by rw [HNX.out]; exact HO4.out), HW4⟩
      case measure => simp [intOf]; omega
    · obtain rfl : k = 4 := by omega
      go_wp2
      go_ret
      exact ⟨_, rfl, HR.out, HB.out⟩
end Go.Proofs.Ytlmdghafiadgjaa
