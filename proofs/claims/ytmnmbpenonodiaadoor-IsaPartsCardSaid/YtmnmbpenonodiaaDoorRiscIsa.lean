/- Contracts of package isa: mayOp, fields. -/
import Derived.Test.YtmnmbpenonodiaaDoorRiscData
namespace Go.Proofs.YtmnmbpenonodiaaDoor
set_option linter.unusedVariables false
set_option linter.unusedSimpArgs false
open Go.RowKit

def mayOp (i : Ins) : Bool :=
  if i.op = 0 then decide (i.b = 0) && (!i.u || (!i.v && (decide (i.form = 1) || decide (i.c ≤ 1))))
  else decide (i.op = 8 ∨ i.op = 9 ∨ i.op = 10) || !i.u

set_option maxHeartbeats 2000000 in
theorem mayop (i : Ins) (w : World) : Calls Tryd.prog 27 #[i.val] w fun e w' => e = .returned (.bool (mayOp i)) ∧ Below w.heap.size w w' := by
  obtain ⟨form, u, v, a, b, c, op, im, off, cond, n⟩ := i
  simp only [mayOp]
  by_cases h0 : op = 0
  · subst h0
    by_cases hb : b = 0
    · subst hb
      cases u
      · ( go_enter Tryd.func27, Tryd.ntmps27 ; go_wp2 ; go_ret ; exact ⟨ret_bool (by first | rfl | (simp [*]; done) | (rw [Bool.eq_iff_iff]; simp; omega)), (Below.refl _ _).alloc (Nat.le_refl _) _⟩)
      · cases v
        · by_cases hf : form = 1
          · ( go_enter Tryd.func27, Tryd.ntmps27 ; go_wp2 ; go_ret ; exact ⟨ret_bool (by first | rfl | (simp [*]; done) | (rw [Bool.eq_iff_iff]; simp; omega)), (Below.refl _ _).alloc (Nat.le_refl _) _⟩)
          · by_cases hc : c ≤ 1
            · ( go_enter Tryd.func27, Tryd.ntmps27 ; go_wp2 ; go_ret ; exact ⟨ret_bool (by first | rfl | (simp [*]; done) | (rw [Bool.eq_iff_iff]; simp; omega)), (Below.refl _ _).alloc (Nat.le_refl _) _⟩)
            · ( go_enter Tryd.func27, Tryd.ntmps27 ; go_wp2 ; go_ret ; exact ⟨ret_bool (by first | rfl | (simp [*]; done) | (rw [Bool.eq_iff_iff]; simp; omega)), (Below.refl _ _).alloc (Nat.le_refl _) _⟩)
        · ( go_enter Tryd.func27, Tryd.ntmps27 ; go_wp2 ; go_ret ; exact ⟨ret_bool (by first | rfl | (simp [*]; done) | (rw [Bool.eq_iff_iff]; simp; omega)), (Below.refl _ _).alloc (Nat.le_refl _) _⟩)
    · ( go_enter Tryd.func27, Tryd.ntmps27 ; go_wp2 ; go_ret ; exact ⟨ret_bool (by first | rfl | (simp [*]; done) | (rw [Bool.eq_iff_iff]; simp; omega)), (Below.refl _ _).alloc (Nat.le_refl _) _⟩)
  · by_cases h8 : op = 8
    · ( go_enter Tryd.func27, Tryd.ntmps27 ; go_wp2 ; go_ret ; exact ⟨ret_bool (by first | rfl | (simp [*]; done) | (rw [Bool.eq_iff_iff]; simp; omega)), (Below.refl _ _).alloc (Nat.le_refl _) _⟩)
    · by_cases h9 : op = 9
      · ( go_enter Tryd.func27, Tryd.ntmps27 ; go_wp2 ; go_ret ; exact ⟨ret_bool (by first | rfl | (simp [*]; done) | (rw [Bool.eq_iff_iff]; simp; omega)), (Below.refl _ _).alloc (Nat.le_refl _) _⟩)
      · by_cases h10 : op = 10
        · ( go_enter Tryd.func27, Tryd.ntmps27 ; go_wp2 ; go_ret ; exact ⟨ret_bool (by first | rfl | (simp [*]; done) | (rw [Bool.eq_iff_iff]; simp; omega)), (Below.refl _ _).alloc (Nat.le_refl _) _⟩)
        · ( go_enter Tryd.func27, Tryd.ntmps27 ; go_wp2 ; go_ret ; exact ⟨ret_bool (by first | rfl | (simp [*]; done) | (rw [Bool.eq_iff_iff]; simp; omega)), (Below.refl _ _).alloc (Nat.le_refl _) _⟩)

def flds (x : Int) : Ins :=
  if x / 536870912 ≤ 1 then ⟨0, decide (x / 536870912 = 1), decide (x / 268435456 % 2 = 1), x / 16777216 % 16, x / 1048576 % 16, x % 65536, x / 65536 % 16, 0, 0, 0, 0⟩
  else if x / 536870912 ≤ 3 then ⟨1, decide (x / 536870912 = 3), decide (x / 268435456 % 2 = 1), x / 16777216 % 16, x / 1048576 % 16, 0, x / 65536 % 16, x % 65536, 0, 0, 0⟩
  else if x / 536870912 ≤ 5 then ⟨x / 536870912 - 2, false, decide (x / 268435456 % 2 = 1), x / 16777216 % 16, x / 1048576 % 16, 0, 0, 0, W.sg (W.ext x 20), 0, 0⟩
  else if x / 536870912 = 7 then ⟨4, false, decide (x / 268435456 % 2 = 1), 0, 0, 0, 0, 0, W.sg (W.ext x 24), x / 16777216 % 16, 0⟩
  else if x / 268435456 % 2 = 1 ∧ x % 16 = 12 then ⟨6, false, false, 0, 0, 0, 0, 0, 0, x / 16777216 % 16, x / 16 % 1048576⟩
  else ⟨5, false, decide (x / 268435456 % 2 = 1), 0, 0, x % 16777216, 0, 0, 0, x / 16777216 % 16, 0⟩

theorem and_mod {x : Int} (h0 : 0 ≤ x) (h1 : x < 4294967296) (k : Nat) (hk : k ≤ 32) (m : Int) (hm : m = 2 ^ k - 1) : bits .and .u32 x m = x % 2 ^ k := by
  obtain ⟨n, rfl⟩ := Int.eq_ofNat_of_zero_le h0
  have hp : (2 : Nat) ^ k ≤ 4294967296 := Nat.pow_le_pow_right (by decide) hk
  have h2 : 1 ≤ 2 ^ k := Nat.one_le_two_pow
  have e : m = ((2 ^ k - 1 : Nat) : Int) := by rw [hm, Int.ofNat_sub h2]; simp
  rw [e, u32_and_nat _ _ (by omega) (by omega), Nat.and_two_pow_sub_one_eq_mod]
  simp

theorem ext_wrap (x : Int) (m : Nat) : wrap64 (wrap32 (W.ext x m)) = W.sg (W.ext x m) := by
  have h0 : 0 ≤ W.ext x m := W.wd_lo _
  have h1 : W.ext x m < 4294967296 := W.wd_hi _
  rw [wrap32_sg h0 h1]
  have := W.sg_bd h0 h1
  unfold wrap64; omega

theorem bit4 : wrap64 (2 + wrap64 (bits .and .u32 4 1)) = 2 := by
  rw [show bits .and .u32 4 1 = 0 from (and_mod (by decide) (by decide) 1 (by decide) 1 (by decide)).trans (by decide)]; unfold wrap64; omega
theorem bit5 : wrap64 (2 + wrap64 (bits .and .u32 5 1)) = 3 := by
  rw [show bits .and .u32 5 1 = 1 from (and_mod (by decide) (by decide) 1 (by decide) 1 (by decide)).trans (by decide)]; unfold wrap64; omega

set_option maxHeartbeats 2000000 in
theorem flds_walk (x : Int) (w : World) (hx : 0 ≤ x ∧ x < 4294967296) : Calls Tryd.prog 26 #[.int .u32 x] w fun e w' => e = .returned (flds x).val ∧ Below w.heap.size w w' := by
  have x20 := ext_wrap x 20
  have x24 := ext_wrap x 24
  have q0 : 0 ≤ x / 536870912 ∧ x / 536870912 < 8 := by omega
  have e1 : bits .and .u32 (x / 268435456) 1 = x / 268435456 % 2 := and_mod (by omega) (by omega) 1 (by omega) _ (by decide)
  have e2 : bits .and .u32 (x / 16777216) 15 = x / 16777216 % 16 := and_mod (by omega) (by omega) 4 (by omega) _ (by decide)
  have e3 : bits .and .u32 (x / 1048576) 15 = x / 1048576 % 16 := and_mod (by omega) (by omega) 4 (by omega) _ (by decide)
  have e4 : bits .and .u32 (x / 65536) 15 = x / 65536 % 16 := and_mod (by omega) (by omega) 4 (by omega) _ (by decide)
  have e5 : bits .and .u32 x 65535 = x % 65536 := and_mod (by omega) (by omega) 16 (by omega) _ (by decide)
  have e6 : bits .and .u32 (x / 536870912) 1 = x / 536870912 % 2 := and_mod (by omega) (by omega) 1 (by omega) _ (by decide)
  have e7 : bits .and .u32 x 15 = x % 16 := and_mod (by omega) (by omega) 4 (by omega) _ (by decide)
  have e8 : bits .and .u32 (x / 16) 1048575 = x / 16 % 1048576 := and_mod (by omega) (by omega) 20 (by omega) _ (by decide)
  have e9 : bits .and .u32 x 16777215 = x % 16777216 := and_mod (by omega) (by omega) 24 (by omega) _ (by decide)
  have hc : x / 536870912 = 0 ∨ x / 536870912 = 1 ∨ x / 536870912 = 2 ∨ x / 536870912 = 3 ∨ x / 536870912 = 4 ∨ x / 536870912 = 5 ∨ x / 536870912 = 6 ∨ x / 536870912 = 7 := by omega
  rcases hc with h | h | h | h | h | h | h | h
  · have hf : flds x = ⟨0, false, decide (x / 268435456 % 2 = 1), x / 16777216 % 16, x / 1048576 % 16, x % 65536, x / 65536 % 16, 0, 0, 0, 0⟩ := by simp [flds, *]
    rw [hf]
    clear hf
    go_enter Tryd.func26, Tryd.ntmps26
    go_wp2
    exact bodyPost_ret (by simp [results, Tryd.results26, go_sem]; (first | done | rfl | exact ⟨rfl, x20⟩ | exact ⟨rfl, x24⟩ | exact ⟨bit4, rfl⟩ | exact ⟨bit5, rfl⟩ | exact ⟨bit4, rfl, x20⟩ | exact ⟨bit5, rfl, x20⟩ | (simp [*]; done))) rfl ⟨rfl, (Below.refl _ _).alloc (Nat.le_refl _) _⟩
  · have hf : flds x = ⟨0, true, decide (x / 268435456 % 2 = 1), x / 16777216 % 16, x / 1048576 % 16, x % 65536, x / 65536 % 16, 0, 0, 0, 0⟩ := by simp [flds, *]
    rw [hf]
    clear hf
    go_enter Tryd.func26, Tryd.ntmps26
    go_wp2
    exact bodyPost_ret (by simp [results, Tryd.results26, go_sem]; (first | done | rfl | exact ⟨rfl, x20⟩ | exact ⟨rfl, x24⟩ | exact ⟨bit4, rfl⟩ | exact ⟨bit5, rfl⟩ | exact ⟨bit4, rfl, x20⟩ | exact ⟨bit5, rfl, x20⟩ | (simp [*]; done))) rfl ⟨rfl, (Below.refl _ _).alloc (Nat.le_refl _) _⟩
  · have hf : flds x = ⟨1, false, decide (x / 268435456 % 2 = 1), x / 16777216 % 16, x / 1048576 % 16, 0, x / 65536 % 16, x % 65536, 0, 0, 0⟩ := by simp [flds, *]
    rw [hf]
    clear hf
    go_enter Tryd.func26, Tryd.ntmps26
    go_wp2
    exact bodyPost_ret (by simp [results, Tryd.results26, go_sem]; (first | done | rfl | exact ⟨rfl, x20⟩ | exact ⟨rfl, x24⟩ | exact ⟨bit4, rfl⟩ | exact ⟨bit5, rfl⟩ | exact ⟨bit4, rfl, x20⟩ | exact ⟨bit5, rfl, x20⟩ | (simp [*]; done))) rfl ⟨rfl, (Below.refl _ _).alloc (Nat.le_refl _) _⟩
  · have hf : flds x = ⟨1, true, decide (x / 268435456 % 2 = 1), x / 16777216 % 16, x / 1048576 % 16, 0, x / 65536 % 16, x % 65536, 0, 0, 0⟩ := by simp [flds, *]
    rw [hf]
    clear hf
    go_enter Tryd.func26, Tryd.ntmps26
    go_wp2
    exact bodyPost_ret (by simp [results, Tryd.results26, go_sem]; (first | done | rfl | exact ⟨rfl, x20⟩ | exact ⟨rfl, x24⟩ | exact ⟨bit4, rfl⟩ | exact ⟨bit5, rfl⟩ | exact ⟨bit4, rfl, x20⟩ | exact ⟨bit5, rfl, x20⟩ | (simp [*]; done))) rfl ⟨rfl, (Below.refl _ _).alloc (Nat.le_refl _) _⟩
  · have hf : flds x = ⟨2, false, decide (x / 268435456 % 2 = 1), x / 16777216 % 16, x / 1048576 % 16, 0, 0, 0, W.sg (W.ext x 20), 0, 0⟩ := by simp [flds, *]
    rw [hf]
    clear hf
    go_enter Tryd.func26, Tryd.ntmps26
    go_wp2_with fail
    refine (word_extend _ _ 20 _ hx (by omega) (by omega)).mono ?_
    rintro e w' ⟨rfl, rfl⟩
    go_wp2_with fail
    exact bodyPost_ret (by simp [results, Tryd.results26, go_sem]; (first | done | rfl | exact ⟨rfl, x20⟩ | exact ⟨rfl, x24⟩ | exact ⟨bit4, rfl⟩ | exact ⟨bit5, rfl⟩ | exact ⟨bit4, rfl, x20⟩ | exact ⟨bit5, rfl, x20⟩ | (simp [*]; done))) rfl ⟨rfl, (Below.refl _ _).alloc (Nat.le_refl _) _⟩
  · have hf : flds x = ⟨3, false, decide (x / 268435456 % 2 = 1), x / 16777216 % 16, x / 1048576 % 16, 0, 0, 0, W.sg (W.ext x 20), 0, 0⟩ := by simp [flds, *]
    rw [hf]
    clear hf
    go_enter Tryd.func26, Tryd.ntmps26
    go_wp2_with fail
    refine (word_extend _ _ 20 _ hx (by omega) (by omega)).mono ?_
    rintro e w' ⟨rfl, rfl⟩
    go_wp2_with fail
    exact bodyPost_ret (by simp [results, Tryd.results26, go_sem]; (first | done | rfl | exact ⟨rfl, x20⟩ | exact ⟨rfl, x24⟩ | exact ⟨bit4, rfl⟩ | exact ⟨bit5, rfl⟩ | exact ⟨bit4, rfl, x20⟩ | exact ⟨bit5, rfl, x20⟩ | (simp [*]; done))) rfl ⟨rfl, (Below.refl _ _).alloc (Nat.le_refl _) _⟩
  · by_cases hv : x / 268435456 % 2 = 1
    · by_cases h12 : x % 16 = 12
      · have hf : flds x = ⟨6, false, false, 0, 0, 0, 0, 0, 0, x / 16777216 % 16, x / 16 % 1048576⟩ := by simp [flds, *]
        rw [hf]
        clear hf
        go_enter Tryd.func26, Tryd.ntmps26
        go_wp2
        exact bodyPost_ret (by simp [results, Tryd.results26, go_sem]; (first | done | rfl | exact ⟨rfl, x20⟩ | exact ⟨rfl, x24⟩ | exact ⟨bit4, rfl⟩ | exact ⟨bit5, rfl⟩ | exact ⟨bit4, rfl, x20⟩ | exact ⟨bit5, rfl, x20⟩ | (simp [*]; done))) rfl ⟨rfl, (Below.refl _ _).alloc (Nat.le_refl _) _⟩
      · have hf : flds x = ⟨5, false, true, 0, 0, x % 16777216, 0, 0, 0, x / 16777216 % 16, 0⟩ := by simp [flds, *]
        rw [hf]
        clear hf
        go_enter Tryd.func26, Tryd.ntmps26
        go_wp2
        exact bodyPost_ret (by simp [results, Tryd.results26, go_sem]; (first | done | rfl | exact ⟨rfl, x20⟩ | exact ⟨rfl, x24⟩ | exact ⟨bit4, rfl⟩ | exact ⟨bit5, rfl⟩ | exact ⟨bit4, rfl, x20⟩ | exact ⟨bit5, rfl, x20⟩ | (simp [*]; done))) rfl ⟨rfl, (Below.refl _ _).alloc (Nat.le_refl _) _⟩
    · have hf : flds x = ⟨5, false, false, 0, 0, x % 16777216, 0, 0, 0, x / 16777216 % 16, 0⟩ := by simp [flds, *]
      rw [hf]
      clear hf
      go_enter Tryd.func26, Tryd.ntmps26
      go_wp2
      exact bodyPost_ret (by simp [results, Tryd.results26, go_sem]; (first | done | rfl | exact ⟨rfl, x20⟩ | exact ⟨rfl, x24⟩ | exact ⟨bit4, rfl⟩ | exact ⟨bit5, rfl⟩ | exact ⟨bit4, rfl, x20⟩ | exact ⟨bit5, rfl, x20⟩ | (simp [*]; done))) rfl ⟨rfl, (Below.refl _ _).alloc (Nat.le_refl _) _⟩
  · have hf : flds x = ⟨4, false, decide (x / 268435456 % 2 = 1), 0, 0, 0, 0, 0, W.sg (W.ext x 24), x / 16777216 % 16, 0⟩ := by simp [flds, *]
    rw [hf]
    clear hf
    go_enter Tryd.func26, Tryd.ntmps26
    go_wp2_with fail
    refine (word_extend _ _ 24 _ hx (by omega) (by omega)).mono ?_
    rintro e w' ⟨rfl, rfl⟩
    go_wp2_with fail
    exact bodyPost_ret (by simp [results, Tryd.results26, go_sem]; (first | done | rfl | exact ⟨rfl, x20⟩ | exact ⟨rfl, x24⟩ | exact ⟨bit4, rfl⟩ | exact ⟨bit5, rfl⟩ | exact ⟨bit4, rfl, x20⟩ | exact ⟨bit5, rfl, x20⟩ | (simp [*]; done))) rfl ⟨rfl, (Below.refl _ _).alloc (Nat.le_refl _) _⟩

end Go.Proofs.YtmnmbpenonodiaaDoor
