/- What a table that is not there, and a zero one, answer. -/
import Derived.Test.YtbppoegdmmflmaaTabNulImp
namespace Go.Proofs.Ytbppoegdmmflmaa
set_option linter.unusedVariables false
set_option linter.unusedSimpArgs false
open Go.RowKit

theorem nul_of {w : World} {wr : World} {k : Nat} (S : Sep wr [(w.heap.size + 1, #[.pointer none, .pointer (some ⟨w.heap.size, 0, none⟩)], 24), (w.heap.size, #[.slice none 0 0, .int .i64 0], 41)]) (hk : k < 2) :
    ∃ v, wr.cell? ⟨w.heap.size + 1, k, none⟩ = some v ∧ NulT wr v := by
  rcases (by omega : k = 0 ∨ k = 1) with rfl | rfl
  · exact ⟨_, ((S.at 0 rfl).cell 0).trans rfl, .inl rfl⟩
  · exact ⟨_, ((S.at 0 rfl).cell 1).trans rfl, .inr ⟨_, rfl, ((S.at 1 rfl).cell 0).trans rfl, ((S.at 1 rfl).cell 1).trans rfl, (S.at 1 rfl).lt⟩⟩

set_option maxRecDepth 20000 in
set_option maxHeartbeats 8000000 in
theorem nil_walk (w : World) : Calls Try.prog 5 #[] w fun e w' => e = .returned (.bool true) ∧ Below w.heap.size w w' := by
  have S0 := Lib.hid ((Sep.nil w).alloc2 #[.slice none 0 0, .int .i64 0] #[.pointer none, .pointer (some ⟨w.heap.size, 0, none⟩)] 41 24)
  have B0 := Lib.hid (bel2 w (.cells #[.slice none 0 0, .int .i64 0] 41) (.cells #[.pointer none, .pointer (some ⟨w.heap.size, 0, none⟩)] 24))
  go_enter Try.func5, Try.ntmps5
  go_wp2_with fail
  go_loopw [3] (fun i wr => ∃ k : Nat, k ≤ 2 ∧ i = .int .i64 k ∧ Sep wr [(w.heap.size + 1, #[.pointer none, .pointer (some ⟨w.heap.size, 0, none⟩)], 24), (w.heap.size, #[.slice none 0 0, .int .i64 0], 41)] ∧ Below w.heap.size w wr) (fun i _ => 2 - (intOf i).toNat)
  case atStart => exact ⟨0, by decide, rfl, S0.out, B0.out⟩
  case round =>
    obtain ⟨k, hk, rfl, hs, hb⟩ := hrel
    have HS := Lib.hid hs
    have HB := Lib.hid hb
    clear hs hb
    by_cases hlt : k < 2
    · obtain ⟨v, hv, hn⟩ := nul_of HS.out hlt
      have HN := Lib.hid hn
      have i1 : (k : Int) < 2 := by omega
      have i2 : (0 : Int) ≤ k := by omega
      clear hn
      go_wp2_with fail
      refine (nul_setbase HN.out).mono ?_
      rintro e w1 ⟨rfl, rfl⟩
      go_wp2_with fail
      refine (nul_setref HN.out).mono ?_
      rintro e w2 ⟨rfl, rfl⟩
      go_wp2_with fail
      refine (nul_record HN.out).mono ?_
      rintro e w3 ⟨rfl, hb3⟩
      have HB3 := Lib.hid hb3
      clear hb3 hv
      go_wp2_with fail
      refine (nul_import (HN.out.bel HB3.out)).mono ?_
      rintro e w4 ⟨rfl, hb4⟩
      have HB4 := Lib.hid (bel_then HB3.out hb4)
      clear hb4
      go_wp2_with fail
      refine (nul_get (HN.out.bel HB4.out)).mono ?_
      rintro e w5 ⟨rfl, hb5⟩
      have HB5 := Lib.hid (bel_then HB4.out hb5)
      have S5 := Lib.hid ((Sep.nil w5).alloc Ty.none.cells.toArray 36)
      have B5 := Lib.hid (bel1 w5 (.cells Ty.none.cells.toArray 36))
      clear hb5
      go_wp2_with (refine store_sep rfl 36 (.tmp 9) (.tmp 42) rfl S5.out 0 rfl rfl rfl (by kernel_rfl) rfl ?_ ?_; rfl; intro w6 S6 k6 s6; clear s6)
      have HB6 := Lib.hid (bel_then HB5.out (B5.out.trans (Below.ofKe k6 (fun i e => Nat.le_of_eq e.symm) B5.out.size)))
      clear S6 k6
      refine (nul_field (HN.out.bel HB6.out)).mono ?_
      rintro e w7 ⟨rfl, hb7⟩
      have HB7 := Lib.hid (bel_then HB6.out hb7)
      have S7 := Lib.hid ((Sep.nil w7).alloc #[.int .i64 0, .int .i64 0, .int .i64 0] 48)
      have B7 := Lib.hid (bel1 w7 (.cells #[.int .i64 0, .int .i64 0, .int .i64 0] 48))
      clear hb7
      go_wp2_with (refine store_sep rfl 48 (.tmp 11) (.tmp 47) rfl S7.out 0 rfl rfl rfl (by kernel_rfl) rfl ?_ ?_; rfl; intro w8 S8 k8 s8; clear s8)
      have HB8 := Lib.hid (bel_then HB7.out (B7.out.trans (Below.ofKe k8 (fun i e => Nat.le_of_eq e.symm) B7.out.size)))
      have HN8 := Lib.hid (HN.out.bel HB8.out)
      clear S8 k8
      refine (nul_size HN8.out).mono ?_
      rintro e w9 ⟨rfl, rfl⟩
      go_wp2_with fail
      refine (nul_scalar HN8.out).mono ?_
      rintro e w9 ⟨rfl, rfl⟩
      go_wp2_with fail
      refine (nul_integer HN8.out).mono ?_
      rintro e w9 ⟨rfl, rfl⟩
      go_wp2_with fail
      refine (nul_fits HN8.out).mono ?_
      rintro e w9 ⟨rfl, rfl⟩
      go_wp2_with fail
      refine (nul_len HN8.out).mono ?_
      rintro e w9 ⟨rfl, rfl⟩
      go_wp2_with fail
      refine (nul_put HN8.out).mono ?_
      rintro e w9 ⟨rfl, rfl⟩
      go_wp2_with fail
      refine (nul_end HN8.out).mono ?_
      rintro e w9 ⟨rfl, rfl⟩
      go_wp2_with fail
      go_roundw
      case rel => exact ⟨k + 1, by omega, by go_num, HS.out.bel HB8.out, HB.out.trans (HB8.out.mono HB.out.size)⟩
      case measure => simp [intOf]; omega
    · obtain rfl : k = 2 := by omega
      go_wp2_with fail
      refine (known_walk _).mono ?_
      rintro e w4 ⟨rfl, hb4⟩
      have HB4 := Lib.hid (bel_then HB.out hb4)
      clear hb4
      go_wp2_with fail
      go_ret
      exact ⟨rfl, HB4.out⟩

end Go.Proofs.Ytbppoegdmmflmaa
