/- Contract of the law's part; the fields of two words that differ in one bit. -/
import Derived.Test.YtmnmbpenonodiaaDoorIsaPart0
import Derived.Test.YtmnmbpenonodiaaDoorSepMore
import Derived.Test.YtmnmbpenonodiaaDoorTail
namespace Go.Proofs.YtmnmbpenonodiaaDoor
set_option linter.unusedVariables false
set_option linter.unusedSimpArgs false
open Go.RowKit

theorem sg20_iff (x y : Int) : W.sg (W.ext x 20) = W.sg (W.ext y 20) ↔ x % 1048576 = y % 1048576 := by
  unfold W.ext W.wd W.sg
  simp only [Int.reducePow, Nat.reduceSub]
  (repeat' split) <;> omega
theorem sg24_iff (x y : Int) : W.sg (W.ext x 24) = W.sg (W.ext y 24) ↔ x % 16777216 = y % 16777216 := by
  unfold W.ext W.wd W.sg
  simp only [Int.reducePow, Nat.reduceSub]
  (repeat' split) <;> omega

theorem parts_plain (X β : Nat) (hX : X < 4294967296) (hβ : β < 32) (hf : (flds (X : Int)).form = (flds ((X ^^^ 2 ^ β : Nat) : Int)).form) :
    ∃ d, d < 9 ∧ ∀ k, k < 9 → ((flds (X : Int)).part k ≠ (flds ((X ^^^ 2 ^ β : Nat) : Int)).part k ↔ k = d) := by
  have hp : 2 ^ β < 2 ^ 32 := Nat.pow_lt_pow_right (by decide) hβ
  have hY : X ^^^ 2 ^ β < 4294967296 := Nat.xor_lt_two_pow (n := 32) hX hp
  have g := fun f s F S hF hS => field_int X β f s F S hF hS
  have hs : (((X ^^^ 2 ^ β : Nat) : Int) < 4294967296) := Int.ofNat_lt.2 hY
  have hs0 : (0 : Int) ≤ ((X ^^^ 2 ^ β : Nat) : Int) := Int.natCast_nonneg _
  generalize hy : ((X ^^^ 2 ^ β : Nat) : Int) = y at hf g hs hs0 ⊢
  have hx : ((X : Int) < 4294967296) := by omega
  have hx0 : (0 : Int) ≤ X := by omega
  have g3 := g 29 3 536870912 8 rfl rfl
  have gv := g 28 1 268435456 2 rfl rfl
  have ga := g 24 4 16777216 16 rfl rfl
  have gb := g 20 4 1048576 16 rfl rfl
  have go := g 16 4 65536 16 rfl rfl
  have g16 := g 0 16 1 65536 rfl rfl
  have g20 := g 0 20 1 1048576 rfl rfl
  have g24 := g 0 24 1 16777216 rfl rfl
  have g4 := g 0 4 1 16 rfl rfl
  have gn := g 4 20 16 1048576 rfl rfl
  simp only [Int.ediv_one] at g16 g20 g24 g4
  rw [flds_F, flds_F] at hf ⊢
  refine parts_core hβ ⟨?_, gv, ga, gb, go, g16, (sg20_iff _ _).trans g20, (sg24_iff _ _).trans g24, g24, g4, gn, ?_, ?_, ?_, ?_, ?_, ?_⟩ hf
  · rw [← g3]; omega
  all_goals omega

set_option maxHeartbeats 4000000 in
theorem part_walk (i : Ins) (k : Nat) (w : World) (hk : k < 9) (hc : 0 ≤ i.cond ∧ i.cond ≤ 15) (hn : 0 ≤ i.n ∧ i.n ≤ 1048575) : Calls Tryd.prog 21 #[i.val, .int .i64 k] w fun e w' => e = .returned (.int .i64 (i.part k)) ∧ Below w.heap.size w w' := by
  obtain ⟨form, u, v, a, b, c, op, im, off, cond, n⟩ := i
  simp only at hc hn
  have hc1 := hc.1
  have hc2 := hc.2
  have hn1 := hn.1
  have hn2 := hn.2
  clear hc hn
  rcases (by omega : k = 0 ∨ k = 1 ∨ k = 2 ∨ k = 3 ∨ k = 4 ∨ k = 5 ∨ k = 6 ∨ k = 7 ∨ k = 8) with rfl | rfl | rfl | rfl | rfl | rfl | rfl | rfl | rfl
  · clear hk hc1 hc2 hn1 hn2
    cases u <;> ( go_enter Tryd.func21, Tryd.ntmps21 ; go_wp2_with fail ; go_ret) <;> exact ⟨rfl, bel2 w _ _⟩
  · clear hk hc1 hc2 hn1 hn2
    cases v <;> ( go_enter Tryd.func21, Tryd.ntmps21 ; go_wp2_with fail ; go_ret) <;> exact ⟨rfl, bel2 w _ _⟩
  all_goals
    clear hk
    ( go_enter Tryd.func21, Tryd.ntmps21 ; go_wp2_with fail ; go_ret)
    exact ⟨rfl, bel3 w _ _ _⟩

end Go.Proofs.YtmnmbpenonodiaaDoor
