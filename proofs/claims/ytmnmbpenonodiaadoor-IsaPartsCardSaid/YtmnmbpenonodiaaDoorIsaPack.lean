/- Contracts of package isa: within, pack's closure, pack, bare, May, Word. -/
import Derived.Test.YtmnmbpenonodiaaDoorIsaPut
import Derived.RegionTactic
import Derived.ChangeAlike
import Derived.Test.YtmnmbpenonodiaaDoorTail
import Derived.Test.YtmnmbpenonodiaaDoorRiscPlain
namespace Go.Proofs.YtmnmbpenonodiaaDoor
set_option linter.unusedVariables false
set_option linter.unusedSimpArgs false
open Go.RowKit

theorem within_walk (n m : Int) (w : World) (h : 0 ≤ n ∧ n < m) : Calls Tryd.prog 33 #[.int .i64 n, .int .i64 m] w fun e w' => e = .returned (.bool true) ∧ w = w' := by
  have h1 := h.1
  have h2 := h.2
  clear h
  go_enter Tryd.func33, Tryd.ntmps33
  go_wp2
  go_ret
  exact ⟨rfl, rfl⟩

theorem or_join {a b : Int} (k : Nat) (h1 : 0 ≤ a ∧ a < 4294967296) (h2 : 0 ≤ b ∧ b < 2 ^ k) (hk : k ≤ 32) (ha : a % 2 ^ k = 0) : bits .or .u32 a b = a + b := by
  obtain ⟨x, rfl⟩ := Int.eq_ofNat_of_zero_le h1.1
  obtain ⟨y, rfl⟩ := Int.eq_ofNat_of_zero_le h2.1
  have hp : (2 : Nat) ^ k ≤ 4294967296 := Nat.pow_le_pow_right (by decide) hk
  have hy : y < 2 ^ k := by have := h2.2; exact_mod_cast this
  have hx : x % 2 ^ k = 0 := by exact_mod_cast ha
  rw [u32_or_nat x y (by omega) (by omega), nat_join k x y hx hy]
  simp

theorem put1_val {x n : Int} {m : Nat} (s : Nat) (hx : FB x m) (hm : m + s ≤ 32) (hs : s = 1 ∨ s = 2 ∨ s = 4 ∨ s = 16 ∨ s = 20 ∨ s = 24) : bits .or .u32 (x * 2 ^ s % 4294967296) (bits .and .u32 (n % 4294967296) (2 ^ s - 1)) = fld x n s := by
  have hp : (2 : Int) ^ (m + s) ≤ 2 ^ 32 := by exact_mod_cast Nat.pow_le_pow_right (by decide) hm
  have h5 : (2 : Int) ^ (m + s) = 2 ^ m * 2 ^ s := by rw [Int.pow_add]
  have hq : (0 : Int) < 2 ^ s := Int.pow_pos (by decide)
  have h3 : 0 ≤ x * 2 ^ s := Int.mul_nonneg hx.1 (by omega)
  have h4 : x * 2 ^ s < 2 ^ m * 2 ^ s := Int.mul_lt_mul_of_pos_right hx.2 hq
  have e1 : x * 2 ^ s % 4294967296 = x * 2 ^ s := Int.emod_eq_of_lt h3 (by omega)
  have hn := Int.emod_nonneg n (show (4294967296 : Int) ≠ 0 by decide)
  have hn2 := Int.emod_lt_of_pos n (show (0 : Int) < 4294967296 by decide)
  have e2 : bits .and .u32 (n % 4294967296) (2 ^ s - 1) = n % 4294967296 % 2 ^ s := and_mod hn hn2 s (by omega) _ rfl
  have e3 : n % 4294967296 % 2 ^ s = n % 2 ^ s := by
    rcases hs with rfl | rfl | rfl | rfl | rfl | rfl <;> simp only [Int.reducePow] <;> omega
  rw [e1, e2, e3, or_join s ⟨h3, by omega⟩ ⟨Int.emod_nonneg _ (by omega), Int.emod_lt_of_pos _ hq⟩ (by omega) (Int.mul_emod_left _ _)]
  unfold fld
  rfl

set_option maxHeartbeats 4000000 in
theorem put1_walk (x n z : Int) (m s : Nat) (g : Nat) (w : World) (hA : At w g #[.int .u32 x] 31) (hx : FB x m) (hm : m + s ≤ 32) (hs : (z, s) = (1, 1) ∨ (z, s) = (2, 2) ∨ (z, s) = (4, 4) ∨ (z, s) = (16, 16) ∨ (z, s) = (20, 20) ∨ (z, s) = (24, 24)) :
    Calls Tryd.prog 43 #[.int .i64 n, .int .i64 z, .pointer (some ⟨g, 0, none⟩)] w fun e w' => e = .returned (.tuple #[]) ∧ At w' g #[.int .u32 (fld x n s)] 31 ∧ Ke (· = g) w w' := by
  have HV := Lib.hid (put1_val (n := n) s hx hm (by simp at hs; omega))
  have HA := Lib.hid (Sep.one hA)
  clear hA hm hx
  rcases hs with h | h | h | h | h | h
  all_goals
    (simp only [Prod.mk.injEq] at h
     obtain ⟨rfl, rfl⟩ := h
     go_enter Tryd.func43, Tryd.ntmps43
     go_wp2_with fail
     have c0 : w.cell? ⟨g, 0, none⟩ = some (.int .u32 x) := ((HA.out.at 0 rfl).cell 0).trans rfl
     have c1 : w.frozen? ⟨g, 0, none⟩ = false := (HA.out.at 0 rfl).free 0
     go_region
     have hv := HV.out
     have HV2 := Lib.hid hv
     clear hv c0 c1
     go_wp2_with fail
     go_end0
     refine ⟨rfl, ?_, (Ke.setCell w ⟨g, 0, none⟩ _).drew⟩
     have hv := HV2.out
     simp only [Int.reducePow, Int.reduceSub] at hv
     rw [← hv]
     exact (setCell_at (HA.out.at 0 rfl) 0 _).drew)

end Go.Proofs.YtmnmbpenonodiaaDoor
