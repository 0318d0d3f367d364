/- kind.lower: what each call comes to. -/
import Derived.Test.YtdnehnjcbdkgcaaLowC
namespace Go.Proofs.Ytdnehnjcbdkgcaa
open Go.RowKit Go.Proofs.YtdnehnjcbdkgcaaW.PrintWords
set_option maxRecDepth 100000 in
set_option maxHeartbeats 1000000 in
theorem kind_lower_any (s : ByteArray) (w : World) (hs : s.size ≤ 9223372036854775807) :
    Calls Try.prog 25 #[.string s] w fun e w' => e = .returned (.string (lowS s)) ∧ Below w.heap.size w w' := by
  have kb := fun W => print_bytes (P := Try.prog) 9 39 5 Try.underlying9 Try.underlying39 Try.underlying5 s W
  have HL : Hid (bytesOf s = bytesOf s) := Lib.hid rfl
  have HBL := Lib.hid (bytesOf_length s)
  have HS : Hid (lowS s = strOfNums (lowL (bytesOf s))) := Lib.hid rfl
  have HBY := Lib.hid (bytesOf_bytes s)
  have HN := Lib.hid (blkB_new w 5 s hs)
  have HB0 := Lib.hid (bytes_below (Below.refl w.heap.size w) (Nat.le_refl _) 5 s)
  go_enter Try.func25, Try.ntmps25
  go_wp2
  clear kb
  generalize Lib.bytesWorld w 5 s = w1 at *
  generalize bytesOf s = L at *
  generalize grownCap w s.size 0 5 = cap at *
  go_loopw [10] (fun s10 wr => ∃ k : Nat, k ≤ s.size ∧ s10 = .int .i64 k ∧ Hid (Below w.heap.size w wr) ∧ Hid (BlkB wr w.heap.size (lowK k L))) (fun s10 _ => s.size - (intOf s10).toNat)
  case atStart => exact ⟨0, Nat.zero_le _, rfl, HB0, Lib.hid (by rw [lowK_zero]; exact HN.out)⟩
  case round =>
    obtain ⟨k, hk, rfl, HB, HK⟩ := hrel
    by_cases hlt : k < s.size
    · have hkl : k < L.length := by have := HBL.out; omega
      obtain ⟨hcell, hfz⟩ := HK.out.cell k (by rw [lowK_length]; exact hkl)
      rw [lowK_at k L hkl] at hcell
      have hr := HBY.out.rd k
      have HSET := Lib.hid (lowK_set k L hkl)
      have HSAME := Lib.hid (lowK_same k L hkl)
      generalize rd L (k : Int) = c at *
      obtain ⟨hc0, hc1⟩ := hr
      clear hkl
      by_cases h1 : 65 ≤ c
      · by_cases h2 : c ≤ 90
        · go_wp2
          go_round
          case rel =>
            refine ⟨k + 1, by omega, by simp, Lib.hid (HB.out.setCell (Nat.le_refl _) _), Lib.hid ?_⟩
            rw [← HSET.out (c + 32) (by unfold lowC; rw [if_pos ⟨h1, h2⟩])]
            exact HK.out.set k _
          case measure => simp [intOf]; omega
        · go_wp2
          go_round
          case rel => exact ⟨k + 1, by omega, by simp, HB, Lib.hid (by rw [← HSAME.out (by unfold lowC; rw [if_neg (by omega)])]; exact HK.out)⟩
          case measure => simp [intOf]; omega
      · go_wp2
        go_round
        case rel => exact ⟨k + 1, by omega, by simp, HB, Lib.hid (by rw [← HSAME.out (by unfold lowC; rw [if_neg (by omega)])]; exact HK.out)⟩
        case measure => simp [intOf]; omega
    · obtain rfl : k = s.size := by omega
      have HF : Hid (BlkB wr w.heap.size (lowL L)) := Lib.hid (by have h := HK.out; rw [← HBL.out, lowK_full] at h; exact h)
      have kcv := string_of_reads (P := Try.prog) (c := cap) Try.underlying39 Try.underlying5 Try.underlying9 HF.out.reads
      rw [lowL_length, HBL.out] at kcv
      go_wp2
      go_ret
      exact ⟨by rw [HS.out]; rfl, HB.out⟩
end Go.Proofs.Ytdnehnjcbdkgcaa
