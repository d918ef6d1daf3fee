/- The statement ScanNil, walked. -/
import Derived.Test.YtdgiijidgjagbaaScanNil
namespace Go.Proofs.Ytdgiijidgjagbaa
set_option linter.unusedVariables false
set_option linter.unusedSimpArgs false
open Go.RowKit

theorem neq_zero (w : World) : (binOp .neq 30 (.agg #[.int .i64 0, .int .i64 0, .int .i32 0, .int .i64 0, .string ⟨#[]⟩]) (.agg #[.int .i64 0, .int .i64 0, .int .i32 0, .int .i64 0, .string ⟨#[]⟩])).run Try.prog w = .ok (.bool false) w := by kernel_rfl

set_option maxRecDepth 20000 in
set_option maxHeartbeats 8000000 in
theorem nil_law (w : World) : Calls Try.prog 9 #[] w fun e w' => e = .returned (.bool true) ∧ Below w.heap.size w w' := by
  have HS := Lib.hid (Sep.nil w)
  have f1 : True := trivial
  have hz := neq_zero
  go_enter Try.func9, Try.ntmps9
  go_wp2_with (have _f := f1; refine alloc_sep rfl 52 rfl HS.out (z := .agg nulC) (cs := nulC) (by kernel_rfl) rfl ?_; intro w1 S1 b1 s1; have HS1 := Lib.hid S1; have HB1 := Lib.hid b1; clear S1 b1 s1 _f f1)
  have HA2 := Lib.hid (At.new w1 #[.pointer none, .pointer (some ⟨w.heap.size, 0, none⟩)] 27)
  have HZ2 := Lib.hid ((HS1.out.at 0 rfl).old (.cells #[.pointer none, .pointer (some ⟨w.heap.size, 0, none⟩)] 27))
  have HB2 := Lib.hid (bel_then HB1.out (bel1 w1 (.cells #[.pointer none, .pointer (some ⟨w.heap.size, 0, none⟩)] 27)))
  go_loopg [3] 2 (fun gk idx wr => ∃ j : Nat, j ≤ 2 ∧ 2 - j ≤ gk ∧ idx = .int .i64 j ∧ At wr w1.heap.size #[.pointer none, .pointer (some ⟨w.heap.size, 0, none⟩)] 27 ∧ At wr w.heap.size nulC 52 ∧ Below w.heap.size w wr)
  case atStart => exact ⟨0, by decide, by decide, rfl, HA2.out, HZ2.out, HB2.out⟩
  case round =>
    obtain ⟨j, hj, hgk, rfl, ha, hz', hb⟩ := hrel
    have HA := Lib.hid ha
    have HZ := Lib.hid hz'
    have HB := Lib.hid hb
    have HG := Lib.hid hgk
    by_cases hjl : j < 2
    · have hcase : ∃ p, NulP wr p ∧ wr.cell? ⟨w1.heap.size, j, none⟩ = some p := by
        rcases (by omega : j = 0 ∨ j = 1) with rfl | rfl
        · exact ⟨_, .inl rfl, (ha.cell 0).trans rfl⟩
        · exact ⟨_, .inr ⟨w.heap.size, rfl, hz'⟩, (ha.cell 1).trans rfl⟩
      obtain ⟨p, hp, hcp⟩ := hcase
      have HP := Lib.hid hp
      have j1 : (0 : Int) ≤ j := by omega
      have j3 : (j : Int) < 2 := by omega
      clear ha hz' hb hgk hj hp
      have f1 : True := trivial
      have f2 : True := trivial
      go_wp2_with (first | (refine (get_nul HP.out).mono ?_; rintro e w' ⟨rfl, rfl⟩) | (refine (mark_nul HP.out 3).mono ?_; rintro e w' ⟨rfl, rfl⟩) | (refine (markat_nul HP.out 3 1).mono ?_; rintro e w' ⟨rfl, rfl⟩) | (refine (err_nul HP.out).mono ?_; rintro e w' ⟨rfl, rfl⟩) | (have _f := f1; refine (symbol_nul HP.out).mono ?_; rintro e w3 ⟨rfl, hb⟩; have HP3 := Lib.hid (HP.out.bel hb); have HB3 := Lib.hid hb; clear hb _f f1) | (refine (name_nul HP3.out).mono ?_; rintro e w' ⟨rfl, rfl⟩) | (refine (names_nul HP3.out).mono ?_; rintro e w' ⟨rfl, rfl⟩) | (refine (intern_nul HP3.out).mono ?_; rintro e w' ⟨rfl, rfl⟩))
      go_roundg (gk - 1)
      case measure => have := HG.out; omega
      case rel => exact ⟨j + 1, hjl, by have := HG.out; omega, by go_num, HA.out.bel HB3.out, HZ.out.bel HB3.out, bel_then HB.out HB3.out⟩
    · have hj2 : j = 2 := by omega
      subst hj2
      clear ha hz' hb hgk hj
      go_wp2_with (refine (known_walk _).mono ?_; rintro e w13 ⟨rfl, hb⟩; have B13 := Lib.hid (bel_then HB.out hb); clear hb)
      go_ret
      exact ⟨rfl, B13.out⟩

end Go.Proofs.Ytdgiijidgjagbaa
