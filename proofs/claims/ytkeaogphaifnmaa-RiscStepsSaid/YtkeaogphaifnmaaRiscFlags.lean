/- Contracts of risc.bits, risc.Flags, risc.Holds. -/
import Derived.Test.YtkeaogphaifnmaaRiscSet
namespace Go.Proofs.Ytkeaogphaifnmaa
set_option linter.unusedVariables false
set_option linter.unusedSimpArgs false
open Go.RowKit

def bn (f : Bool) (n : Int) : Int := if f then n else 0
def flagsTo (f : Nat → Bool) : Nat → Int
  | 0 => 0
  | k + 1 => flagsTo f k + bn (f k) (2 ^ (31 - k))
def Cpu.flag (c : Cpu) : Nat → Bool
  | 0 => c.n
  | 1 => c.z
  | 2 => c.c
  | _ => c.v
def Cpu.flags (c : Cpu) : Int := flagsTo c.flag 4

theorem flag_or (f : Nat → Bool) (k : Nat) (hk : k < 4) (h : f k = true) : bits .or .u32 (flagsTo f k) (2 ^ (31 - k)) = flagsTo f (k + 1) := by
  have hq : ∀ (a b : Nat), a < 4294967296 → b < 4294967296 → bits .or .u32 (a : Int) (b : Int) = ((a ||| b : Nat) : Int) := fun a b ha hb => u32_or_nat a b ha hb
  match k, hk with
  | 0, _ => simp only [flagsTo, h, bn]; exact (hq 0 2147483648 (by decide) (by decide)).trans (by decide)
  | 1, _ =>
    simp only [flagsTo, h, bn]
    cases f 0
    · exact (hq 0 1073741824 (by decide) (by decide)).trans (by decide)
    · exact (hq 2147483648 1073741824 (by decide) (by decide)).trans (by decide)
  | 2, _ =>
    simp only [flagsTo, h, bn]
    cases f 0 <;> cases f 1
    · exact (hq 0 536870912 (by decide) (by decide)).trans (by decide)
    · exact (hq 1073741824 536870912 (by decide) (by decide)).trans (by decide)
    · exact (hq 2147483648 536870912 (by decide) (by decide)).trans (by decide)
    · exact (hq 3221225472 536870912 (by decide) (by decide)).trans (by decide)
  | 3, _ =>
    simp only [flagsTo, h, bn]
    cases f 0 <;> cases f 1 <;> cases f 2
    · exact (hq 0 268435456 (by decide) (by decide)).trans (by decide)
    · exact (hq 536870912 268435456 (by decide) (by decide)).trans (by decide)
    · exact (hq 1073741824 268435456 (by decide) (by decide)).trans (by decide)
    · exact (hq 1610612736 268435456 (by decide) (by decide)).trans (by decide)
    · exact (hq 2147483648 268435456 (by decide) (by decide)).trans (by decide)
    · exact (hq 2684354560 268435456 (by decide) (by decide)).trans (by decide)
    · exact (hq 3221225472 268435456 (by decide) (by decide)).trans (by decide)
    · exact (hq 3758096384 268435456 (by decide) (by decide)).trans (by decide)

theorem flag_no (f : Nat → Bool) (k : Nat) (h : f k = false) : flagsTo f (k + 1) = flagsTo f k := by simp [flagsTo, h, bn]

theorem pow_small (k : Nat) (h : k < 4) : (2 : Int) ^ (31 - k) % 4294967296 = 2 ^ (31 - k) := by
  match k, h with
  | 0, _ | 1, _ | 2, _ | 3, _ => decide

theorem bits_walk (f : Nat → Bool) (b : Nat) (w : World) (hc : ∀ j, j < 4 → w.cell? ⟨b, j, none⟩ = some (.bool (f j))) :
    Calls Try.prog 37 #[.slice (some ⟨b, 0, none⟩) 4 4] w fun e w' => e = .returned (.int .u32 (flagsTo f 4)) ∧ w = w' := by
  have HC := Lib.hid hc
  clear hc
  go_enter Try.func37, Try.ntmps37
  go_wp2_with fail
  go_loop [3, 8] (fun x i => ∃ k : Nat, k ≤ 4 ∧ i = .int .i64 k ∧ x = .int .u32 (flagsTo f k)) (fun _ i => 4 - (intOf i).toNat)
  case atStart => exact ⟨0, Nat.zero_le _, rfl, rfl⟩
  case round =>
    obtain ⟨k, hk, rfl, rfl⟩ := hrel
    have hor := Lib.hid (flag_or f k)
    have hno := Lib.hid (flag_no f k)
    obtain ⟨z, hz⟩ : ∃ z, z = flagsTo f k := ⟨_, rfl⟩
    by_cases hlt : k < 4
    · have hcell := HC.out k hlt
      have hb : (31 : Int) - k = ((31 - k : Nat) : Int) := by omega
      rw [← hz] at hor hno
      rw [← hz]
      clear hz
      cases hf : f k
      · rw [hf] at hcell
        have hno := Lib.hid (hno.out hf)
        clear hf
        go_wp2_with fail
        go_round
        case rel => exact ⟨k + 1, by omega, by go_num, by rw [hno.out]⟩
        case measure => simp [intOf]; omega
      · rw [hf] at hcell
        have hor := Lib.hid (hor.out hlt hf)
        clear hf
        go_wp2_with fail
        go_round
        case rel => exact ⟨k + 1, by omega, by go_num, by rw [← hor.out, pow_small k hlt]⟩
        case measure => simp [intOf]; omega
    · obtain rfl : k = 4 := by omega
      rw [← hz]
      have HZ := Lib.hid hz
      clear hz
      go_wp2_with fail
      go_ret
      exact ⟨ret_int HZ.out, rfl⟩

theorem flags_walk (c : Cpu) (w : World) : Calls Try.prog 23 #[c.val] w fun e w' => e = .returned (.int .u32 c.flags) ∧ Below w.heap.size w w' := by
  go_enter Try.func23, Try.ntmps23
  have h := Holds.new w c
  have hn := h.n
  have hz := h.z
  have hc := h.c
  have hv := h.v
  have HH := Lib.hid h
  clear h
  go_wp2_with fail
  refine (bits_walk c.flag _ _ ?_).mono ?_
  · intro j hj
    have := heap_alloc_new (w.alloc (.cells c.cells 25)) (.cells #[Value.bool c.n, Value.bool c.z, Value.bool c.c, Value.bool c.v] 4)
    rw [show (w.alloc (.cells c.cells 25)).heap.size = w.heap.size + 1 from by simp] at this
    unfold World.cell?
    rw [this]
    match j, hj with
    | 0, _ | 1, _ | 2, _ | 3, _ => rfl
  rintro e w' ⟨rfl, rfl⟩
  go_wp2_with fail
  go_ret
  exact ⟨ret_int rfl, ((Below.refl _ _).alloc (Nat.le_refl _) _).alloc (by simp) _⟩

theorem i64_small (m : Int) (h0 : 0 ≤ m) (h1 : m < 16) : IntKind.i64.wrap m = m := by
  rw [IntKind.wrap_i64]; omega
theorem i64_and15 (a : Int) : bits .and .i64 a 15 = a % 16 := by
  show IntKind.i64.wrap ((BitVec.ofInt 64 a &&& BitVec.ofInt 64 15).toNat : Int) = _
  rw [BitVec.toNat_and, BitVec.toNat_ofInt, show (BitVec.ofInt 64 15).toNat = 2 ^ 4 - 1 from by decide, Nat.and_two_pow_sub_one_eq_mod]
  have e : (((a % ((2 ^ 64 : Nat) : Int)).toNat % 2 ^ 4 : Nat) : Int) = a % 16 := by omega
  rw [e]
  exact i64_small _ (by omega) (by omega)
theorem i64_and7 (a : Int) : bits .and .i64 a 7 = a % 8 := by
  show IntKind.i64.wrap ((BitVec.ofInt 64 a &&& BitVec.ofInt 64 7).toNat : Int) = _
  rw [BitVec.toNat_and, BitVec.toNat_ofInt, show (BitVec.ofInt 64 7).toNat = 2 ^ 3 - 1 from by decide, Nat.and_two_pow_sub_one_eq_mod]
  have e : (((a % ((2 ^ 64 : Nat) : Int)).toNat % 2 ^ 3 : Nat) : Int) = a % 8 := by omega
  rw [e]
  exact i64_small _ (by omega) (by omega)

/-- the first eight conditions. -/
def Cpu.is (c : Cpu) (n : Int) : Bool :=
  if n = 0 then c.n else if n = 1 then c.z else if n = 2 then c.c else if n = 3 then c.v else if n = 4 then c.c || c.z
  else if n = 5 then c.n != c.v else if n = 6 then c.z || c.n != c.v else true
def Cpu.cond (c : Cpu) (n : Int) : Bool := c.is (n % 8) != decide (8 ≤ n % 16)

theorem cond_low (c : Cpu) (n : Int) (h : 0 ≤ n ∧ n < 8) : c.cond n = c.is n := by
  unfold Cpu.cond
  rw [show n % 8 = n from by omega, show decide (8 ≤ n % 16) = false from decide_eq_false (by omega)]
  simp
theorem cond_high (c : Cpu) (n : Int) (h : 0 ≤ n ∧ n < 8) : c.cond (n + 8) = !c.is n := by
  unfold Cpu.cond
  rw [show (n + 8) % 8 = n from by omega, show decide (8 ≤ (n + 8) % 16) = true from decide_eq_true (by omega)]
  simp

set_option maxHeartbeats 1000000 in
theorem holds_walk (c : Cpu) (cond : Int) (w : World) : Calls Try.prog 15 #[c.val, .int .i64 cond] w fun e w' => e = .returned (.bool (c.cond cond)) ∧ Below w.heap.size w w' := by
  have e1 := i64_and15 cond
  have e2 : bits .and .i64 (cond % 16) 7 = cond % 8 := by rw [i64_and7]; omega
  have h := Holds.new w c
  have hn := h.n
  have hz := h.z
  have hc := h.c
  have hv := h.v
  clear h
  have hk : cond % 8 = 0 ∨ cond % 8 = 1 ∨ cond % 8 = 2 ∨ cond % 8 = 3 ∨ cond % 8 = 4 ∨ cond % 8 = 5 ∨ cond % 8 = 6 ∨ cond % 8 = 7 := by omega
  simp only [Cpu.cond]
  rcases hk with h | h | h | h | h | h | h | h
  · have hi : c.is (cond % 8) = c.n := by rw [h]; rfl
    rw [hi]
    clear hi
    go_enter Try.func15, Try.ntmps15
    go_wp2
    go_ret
    exact ⟨ret_bool (by (first | rfl | (simp; done) | (cases c.n <;> cases c.z <;> cases c.c <;> cases c.v <;> first | rfl | (simp; done)))), (Below.refl _ _).alloc (Nat.le_refl _) _⟩
  · have hi : c.is (cond % 8) = c.z := by rw [h]; rfl
    rw [hi]
    clear hi
    go_enter Try.func15, Try.ntmps15
    go_wp2
    go_ret
    exact ⟨ret_bool (by (first | rfl | (simp; done) | (cases c.n <;> cases c.z <;> cases c.c <;> cases c.v <;> first | rfl | (simp; done)))), (Below.refl _ _).alloc (Nat.le_refl _) _⟩
  · have hi : c.is (cond % 8) = c.c := by rw [h]; rfl
    rw [hi]
    clear hi
    go_enter Try.func15, Try.ntmps15
    go_wp2
    go_ret
    exact ⟨ret_bool (by (first | rfl | (simp; done) | (cases c.n <;> cases c.z <;> cases c.c <;> cases c.v <;> first | rfl | (simp; done)))), (Below.refl _ _).alloc (Nat.le_refl _) _⟩
  · have hi : c.is (cond % 8) = c.v := by rw [h]; rfl
    rw [hi]
    clear hi
    go_enter Try.func15, Try.ntmps15
    go_wp2
    go_ret
    exact ⟨ret_bool (by (first | rfl | (simp; done) | (cases c.n <;> cases c.z <;> cases c.c <;> cases c.v <;> first | rfl | (simp; done)))), (Below.refl _ _).alloc (Nat.le_refl _) _⟩
  · have hi : c.is (cond % 8) = (c.c || c.z) := by rw [h]; rfl
    rw [hi]
    clear hi
    cases hq : c.c
    all_goals
      rw [hq] at hc
      clear hq
      go_enter Try.func15, Try.ntmps15
      go_wp2
      go_ret
      exact ⟨ret_bool (by (first | rfl | (simp; done) | (cases c.n <;> cases c.z <;> cases c.c <;> cases c.v <;> first | rfl | (simp; done)))), (Below.refl _ _).alloc (Nat.le_refl _) _⟩
  · have hi : c.is (cond % 8) = (c.n != c.v) := by rw [h]; rfl
    rw [hi]
    clear hi
    go_enter Try.func15, Try.ntmps15
    go_wp2
    go_ret
    exact ⟨ret_bool (by (first | rfl | (simp; done) | (cases c.n <;> cases c.z <;> cases c.c <;> cases c.v <;> first | rfl | (simp; done)))), (Below.refl _ _).alloc (Nat.le_refl _) _⟩
  · have hi : c.is (cond % 8) = (c.z || c.n != c.v) := by rw [h]; rfl
    rw [hi]
    clear hi
    cases hq : c.z
    all_goals
      rw [hq] at hz
      clear hq
      go_enter Try.func15, Try.ntmps15
      go_wp2
      go_ret
      exact ⟨ret_bool (by (first | rfl | (simp; done) | (cases c.n <;> cases c.z <;> cases c.c <;> cases c.v <;> first | rfl | (simp; done)))), (Below.refl _ _).alloc (Nat.le_refl _) _⟩
  · have hi : c.is (cond % 8) = true := by rw [h]; rfl
    rw [hi]
    clear hi
    go_enter Try.func15, Try.ntmps15
    go_wp2
    go_ret
    exact ⟨ret_bool (by (first | rfl | (simp; done) | (cases c.n <;> cases c.z <;> cases c.c <;> cases c.v <;> first | rfl | (simp; done)))), (Below.refl _ _).alloc (Nat.le_refl _) _⟩

end Go.Proofs.Ytkeaogphaifnmaa
