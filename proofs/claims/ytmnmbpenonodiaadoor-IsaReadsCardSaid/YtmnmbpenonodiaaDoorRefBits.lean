/- Contracts of the reference of layer 3: bits, signed. -/
import Derived.Test.YtmnmbpenonodiaaDoorRiscCand
namespace Go.Proofs.YtmnmbpenonodiaaDoor
set_option linter.unusedVariables false
set_option linter.unusedSimpArgs false
open Go.RowKit

set_option maxHeartbeats 2000000 in
theorem bits_ref (x f s : Int) (w : World) (hx : 0 ≤ x ∧ x < 4294967296) {f' s' : Nat} (h : (f, s, f', s') = (29, 1, 29, 1) ∨ (f, s, f', s') = (28, 1, 28, 1) ∨ (f, s, f', s') = (24, 4, 24, 4) ∨ (f, s, f', s') = (20, 4, 20, 4) ∨ (f, s, f', s') = (16, 4, 16, 4) ∨ (f, s, f', s') = (0, 20, 0, 20) ∨ (f, s, f', s') = (0, 4, 0, 4) ∨ (f, s, f', s') = (0, 16, 0, 16) ∨ (f, s, f', s') = (0, 24, 0, 24) ∨ (f, s, f', s') = (4, 8, 4, 8)) :
    Calls Tryd.prog 28 #[.int .u32 x, .int .i64 f, .int .i64 s] w fun e w' => e = .returned (.int .i64 (x / 2 ^ f' % 2 ^ s')) ∧ w = w' := by
  rcases h with h | h | h | h | h | h | h | h | h | h
  all_goals
    (simp only [Prod.mk.injEq] at h
     obtain ⟨rfl, rfl, rfl, rfl⟩ := h
     go_enter Tryd.func28, Tryd.ntmps28
     go_wp2
     go_ret
     refine ⟨ret_int ?_, rfl⟩
     first | (simp only [Int.reducePow]; done) | (simp only [Int.reducePow]; omega) | (simp only [Int.reducePow]; unfold wrap64; omega))

theorem signed20_ref (n : Int) (w : World) (hn : 0 ≤ n ∧ n < 1048576) :
    Calls Tryd.prog 29 #[.int .i64 n, .int .i64 20] w fun e w' => e = .returned (.int .i64 (if 524288 ≤ n then n - 1048576 else n)) ∧ w = w' := by
  by_cases h : 524288 ≤ n
  all_goals
    (go_enter Tryd.func29, Tryd.ntmps29
     go_wp2
     go_ret
     refine ⟨ret_int ?_, rfl⟩
     first | (split <;> omega) | omega)
theorem signed24_ref (n : Int) (w : World) (hn : 0 ≤ n ∧ n < 16777216) :
    Calls Tryd.prog 29 #[.int .i64 n, .int .i64 24] w fun e w' => e = .returned (.int .i64 (if 8388608 ≤ n then n - 16777216 else n)) ∧ w = w' := by
  by_cases h : 8388608 ≤ n
  all_goals
    (go_enter Tryd.func29, Tryd.ntmps29
     go_wp2
     go_ret
     refine ⟨ret_int ?_, rfl⟩
     first | (split <;> omega) | omega)

end Go.Proofs.YtmnmbpenonodiaaDoor
