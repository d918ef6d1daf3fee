/- Plain: what the instructions of RiscWide do. -/
import Derived.Test.YtkeaogphaifnmaaRiscNumbers
namespace Go.Proofs.Ytkeaogphaifnmaa
set_option linter.unusedVariables false
set_option linter.unusedSimpArgs false
open Go.RowKit

def addC (c : Cpu) (r p q k : Int) : Cpu := ({ c with c := decide (4294967296 ≤ p + q + k), v := W.out (W.sg p + W.sg q + k) } : Cpu).set r (W.wd (p + q + k))
def subC (c : Cpu) (r p q k : Int) : Cpu := ({ c with c := decide (p - q - k < 0), v := W.out (W.sg p - W.sg q - k) } : Cpu).set r (W.wd (p - q - k))
def mulC (c : Cpu) (r p q : Int) : Cpu := ({ c with h := W.mulHi false p q } : Cpu).set r (W.mulLo false p q)
def divC (c : Cpu) (r p q : Int) : Cpu := ({ c with h := W.rem p q } : Cpu).set r (W.quo p q)
def wi (u : Bool) (A B C op : Int) : Ins := ⟨0, u, false, A, B, C, op, 0, 0, 0, 0⟩

theorem wi_may {u : Bool} {A B C op : Int} (ha : 0 ≤ A ∧ A ≤ 15) (hb : 0 ≤ B ∧ B ≤ 15) (hc : 0 ≤ C ∧ C ≤ 15) (ho : (8 ≤ op ∧ op ≤ 10) ∨ (op = 11 ∧ u = false)) : (wi u A B C op).May := by
  constructor <;> simp [wi] <;> first | omega | (intro h; rcases ho with h' | ⟨_, h'⟩; omega; rw [h] at h'; cases h')
theorem wm_may {A : Int} (ha : 0 ≤ A ∧ A ≤ 15) : (wi true A 0 0 0).May := by
  constructor <;> simp [wi] <;> omega

theorem wi_num (c : Cpu) (u : Bool) (A B C op : Int) (h : op ≠ 0) : c.next.num (wi u A B C op) = c.r C.toNat := by
  simp [Cpu.num, wi, h, Cpu.next]
theorem step_add (c : Cpu) (u : Bool) (A B C : Int) (ha : 0 ≤ A ∧ A ≤ 15) (hb : 0 ≤ B ∧ B ≤ 15) (hc : 0 ≤ C ∧ C ≤ 15) : c.step (wordR (wi u A B C 8)) = (addC c.next A (c.r B.toNat) (c.r C.toNat) (bn (u && c.c) 1), Ev.none) := by
  refine exec_op c (wi_may ha hb hc (.inl (by omega))) (by simp [wi]) ?_
  rw [wi_num c u A B C 8 (by decide)]
  simp [Cpu.op, wi, addC, Cpu.next]; rfl
theorem step_sub (c : Cpu) (u : Bool) (A B C : Int) (ha : 0 ≤ A ∧ A ≤ 15) (hb : 0 ≤ B ∧ B ≤ 15) (hc : 0 ≤ C ∧ C ≤ 15) : c.step (wordR (wi u A B C 9)) = (subC c.next A (c.r B.toNat) (c.r C.toNat) (bn (u && c.c) 1), Ev.none) := by
  refine exec_op c (wi_may ha hb hc (.inl (by omega))) (by simp [wi]) ?_
  rw [wi_num c u A B C 9 (by decide)]
  simp [Cpu.op, wi, subC, Cpu.next]; rfl
theorem step_mul (c : Cpu) (A B C : Int) (ha : 0 ≤ A ∧ A ≤ 15) (hb : 0 ≤ B ∧ B ≤ 15) (hc : 0 ≤ C ∧ C ≤ 15) : c.step (wordR (wi true A B C 10)) = (mulC c.next A (c.r B.toNat) (c.r C.toNat), Ev.none) := by
  refine exec_op c (wi_may ha hb hc (.inl (by omega))) (by simp [wi]) ?_
  rw [wi_num c true A B C 10 (by decide)]
  simp [Cpu.op, wi, mulC, Cpu.next]
theorem step_div (c : Cpu) (A B C : Int) (ha : 0 ≤ A ∧ A ≤ 15) (hb : 0 ≤ B ∧ B ≤ 15) (hc : 0 ≤ C ∧ C ≤ 15) (h : 0 < c.r C.toNat ∧ c.r C.toNat < 2147483648) : c.step (wordR (wi false A B C 11)) = (divC c.next A (c.r B.toNat) (c.r C.toNat), Ev.none) := by
  refine exec_op c (wi_may ha hb hc (.inr ⟨rfl, rfl⟩)) (by simp [wi]) ?_
  rw [wi_num c false A B C 11 (by decide)]
  simp [Cpu.op, wi, divC, Cpu.next, h]
theorem step_h (c : Cpu) (A : Int) (ha : 0 ≤ A ∧ A ≤ 15) : c.step (wordR (wi true A 0 0 0)) = (c.next.set A c.h, Ev.none) := by
  refine exec_op c (wm_may ha) (by simp [wi]) ?_
  simp [Cpu.op, Cpu.num, wi, Cpu.next]

theorem wd_bd (n : Int) : 0 ≤ W.wd n ∧ W.wd n < 4294967296 := ⟨W.wd_lo n, W.wd_hi n⟩
theorem addC_ok {c : Cpu} (h : c.Ok) (r p q k : Int) : (addC c r p q k).Ok := by unfold addC; refine set_ok ?_ (wd_bd _); exact ⟨h.r, h.h, h.pc⟩
theorem subC_ok {c : Cpu} (h : c.Ok) (r p q k : Int) : (subC c r p q k).Ok := by unfold subC; refine set_ok ?_ (wd_bd _); exact ⟨h.r, h.h, h.pc⟩
theorem lo_bd (p q : Int) : 0 ≤ W.mulLo false p q ∧ W.mulLo false p q < 4294967296 := by unfold W.mulLo; simp; omega
theorem hi_bd {p q : Int} (hp : 0 ≤ p ∧ p < 4294967296) (hq : 0 ≤ q ∧ q < 4294967296) : 0 ≤ W.mulHi false p q ∧ W.mulHi false p q < 4294967296 := by
  have := W.mul_bd hp hq
  unfold W.mulHi; simp; omega
theorem mulC_ok {c : Cpu} (h : c.Ok) (r : Int) {p q : Int} (hp : 0 ≤ p ∧ p < 4294967296) (hq : 0 ≤ q ∧ q < 4294967296) : (mulC c r p q).Ok := by unfold mulC; refine set_ok ?_ (lo_bd _ _); exact ⟨h.r, hi_bd hp hq, h.pc⟩
theorem rem_bd {p q : Int} (hq : 0 < q ∧ q < 2147483648) : 0 ≤ W.rem p q ∧ W.rem p q < 4294967296 := by
  have h1 := Int.emod_nonneg (W.sg p) (show q ≠ 0 by omega)
  have h2 := Int.emod_lt_of_pos (W.sg p) hq.1
  unfold W.rem; omega
theorem divC_ok {c : Cpu} (h : c.Ok) (r : Int) {p q : Int} (hq : 0 < q ∧ q < 2147483648) : (divC c r p q).Ok := by unfold divC; refine set_ok ?_ (wd_bd _); exact ⟨h.r, rem_bd hq, h.pc⟩

/-- the four words in the low registers. -/
def w0 (c : Cpu) (a0 a1 b0 b1 : Int) : Cpu := { c with r := fun i => if i = 3 then b1 else if i = 2 then b0 else if i = 1 then a1 else if i = 0 then a0 else c.r i }
def w1 (c : Cpu) (a0 a1 b0 b1 : Int) : Cpu := addC (w0 c a0 a1 b0 b1).next 4 a0 b0 0
def w2 (c : Cpu) (a0 a1 b0 b1 : Int) : Cpu := addC (w1 c a0 a1 b0 b1).next 5 a1 b1 (bn (decide (4294967296 ≤ a0 + b0)) 1)
def w3 (c : Cpu) (a0 a1 b0 b1 : Int) : Cpu := subC (w2 c a0 a1 b0 b1).next 6 a0 b0 0
def w4 (c : Cpu) (a0 a1 b0 b1 : Int) : Cpu := subC (w3 c a0 a1 b0 b1).next 7 a1 b1 (bn (decide (a0 - b0 < 0)) 1)
def w5 (c : Cpu) (a0 a1 b0 b1 : Int) : Cpu := mulC (w4 c a0 a1 b0 b1).next 8 a0 b0
def w6 (c : Cpu) (a0 a1 b0 b1 : Int) : Cpu := (w5 c a0 a1 b0 b1).next.set 9 (W.mulHi false a0 b0)
def wD (c : Cpu) (a0 a1 b0 b1 : Int) : Nat → Cpu
  | 0 => w0 c a0 a1 b0 b1
  | 1 => w1 c a0 a1 b0 b1
  | 2 => w2 c a0 a1 b0 b1
  | 3 => w3 c a0 a1 b0 b1
  | 4 => w4 c a0 a1 b0 b1
  | 5 => w5 c a0 a1 b0 b1
  | _ => w6 c a0 a1 b0 b1
def v1 (c : Cpu) (a0 a1 b0 b1 : Int) : Cpu := divC (w0 c a0 a1 b0 b1).next 4 a0 b0
def v2 (c : Cpu) (a0 a1 b0 b1 : Int) : Cpu := (v1 c a0 a1 b0 b1).next.set 5 (W.rem a0 b0)
def vD (c : Cpu) (a0 a1 b0 b1 : Int) : Nat → Cpu
  | 0 => w0 c a0 a1 b0 b1
  | 1 => v1 c a0 a1 b0 b1
  | _ => v2 c a0 a1 b0 b1
def wL : List Ins := [wi false 4 0 2 8, wi true 5 1 3 8, wi false 6 0 2 9, wi true 7 1 3 9, wi true 8 0 2 10, wi true 9 0 0 0]
def vL : List Ins := [wi false 4 0 2 11, wi true 5 0 0 0]

theorem w0_cells (c : Cpu) (a0 a1 b0 b1 : Int) : ((((c.cells.setIfInBounds 0 (.int .u32 a0)).setIfInBounds 1 (.int .u32 a1)).setIfInBounds 2 (.int .u32 b0)).setIfInBounds 3 (.int .u32 b1)) = (w0 c a0 a1 b0 b1).cells := by
  simp [Cpu.cells, w0]
theorem w0_sep {w : World} {c : Cpu} {g : Nat} {a0 a1 b0 b1 : Int} (h : Sep w [(g, ((((c.cells.setIfInBounds 0 (.int .u32 a0)).setIfInBounds 1 (.int .u32 a1)).setIfInBounds 2 (.int .u32 b0)).setIfInBounds 3 (.int .u32 b1)), 25)]) : Sep w [(g, (w0 c a0 a1 b0 b1).cells, 25)] := by
  rw [← w0_cells]; exact h
theorem bel4 {w u w1 w2 w3 w4 : World} {g : Nat} (h : Below w.heap.size w u) (hg : w.heap.size ≤ g) (k1 : Ke (· = g) u w1) (k2 : Ke (· = g) w1 w2) (k3 : Ke (· = g) w2 w3) (k4 : Ke (· = g) w3 w4) : Below w.heap.size w w4 :=
  bel_ke (bel_ke (bel_ke (bel_ke h k1 hg) k2 hg) k3 hg) k4 hg

theorem w0_ok {c : Cpu} (h : c.Ok) {a0 a1 b0 b1 : Int} (h1 : 0 ≤ a0 ∧ a0 < 4294967296) (h2 : 0 ≤ a1 ∧ a1 < 4294967296) (h3 : 0 ≤ b0 ∧ b0 < 4294967296) (h4 : 0 ≤ b1 ∧ b1 < 4294967296) : (w0 c a0 a1 b0 b1).Ok := by
  refine ⟨fun j => ?_, h.h, h.pc⟩
  unfold w0
  simp only []
  (repeat' split) <;> first | assumption | exact h.r j

set_option maxHeartbeats 1000000 in
theorem does_w {c : Cpu} (h : c.Ok) {a0 a1 b0 b1 : Int} (h1 : 0 ≤ a0 ∧ a0 < 4294967296) (h2 : 0 ≤ a1 ∧ a1 < 4294967296) (h3 : 0 ≤ b0 ∧ b0 < 4294967296) (h4 : 0 ≤ b1 ∧ b1 < 4294967296) :
    Does (w0 c a0 a1 b0 b1) wL (wD c a0 a1 b0 b1) (fun _ => Ev.none) := by
  have k0 := w0_ok h h1 h2 h3 h4
  have k1 : (w1 c a0 a1 b0 b1).Ok := addC_ok (ok_next k0) _ _ _ _
  have k2 : (w2 c a0 a1 b0 b1).Ok := addC_ok (ok_next k1) _ _ _ _
  have k3 : (w3 c a0 a1 b0 b1).Ok := subC_ok (ok_next k2) _ _ _ _
  have k4 : (w4 c a0 a1 b0 b1).Ok := subC_ok (ok_next k3) _ _ _ _
  have k5 : (w5 c a0 a1 b0 b1).Ok := mulC_ok (ok_next k4) _ h1 h3
  refine ⟨rfl, fun k hkk => ?_, fun i hi => ?_, fun k i hi => ?_⟩
  · match k, hkk with
    | 0, _ => exact k0
    | 1, _ => exact k1
    | 2, _ => exact k2
    | 3, _ => exact k3
    | 4, _ => exact k4
    | 5, _ => exact k5
    | 6, _ => exact set_ok (ok_next k5) (hi_bd h1 h3)
    | k + 7, h => exact absurd h (by simp [wL])
  · simp only [wL, List.mem_cons, List.not_mem_nil, or_false] at hi
    rcases hi with rfl | rfl | rfl | rfl | rfl | rfl <;> first | exact wi_may (by omega) (by omega) (by omega) (.inl (by omega)) | exact wm_may (by omega)
  · match k, hi with
    | 0, hi =>
      obtain rfl : wi false 4 0 2 8 = i := by simpa [wL] using hi
      rw [(step_add _ _ _ _ _ (by omega) (by omega) (by omega))]
      simp [wD, w1, w2, w3, w4, w5, w6, vD, v1, v2, w0, addC, subC, mulC, divC, Cpu.set, Cpu.next, bn]
    | 1, hi =>
      obtain rfl : wi true 5 1 3 8 = i := by simpa [wL] using hi
      rw [(step_add _ _ _ _ _ (by omega) (by omega) (by omega))]
      simp [wD, w1, w2, w3, w4, w5, w6, vD, v1, v2, w0, addC, subC, mulC, divC, Cpu.set, Cpu.next, bn]
    | 2, hi =>
      obtain rfl : wi false 6 0 2 9 = i := by simpa [wL] using hi
      rw [(step_sub _ _ _ _ _ (by omega) (by omega) (by omega))]
      simp [wD, w1, w2, w3, w4, w5, w6, vD, v1, v2, w0, addC, subC, mulC, divC, Cpu.set, Cpu.next, bn]
    | 3, hi =>
      obtain rfl : wi true 7 1 3 9 = i := by simpa [wL] using hi
      rw [(step_sub _ _ _ _ _ (by omega) (by omega) (by omega))]
      simp [wD, w1, w2, w3, w4, w5, w6, vD, v1, v2, w0, addC, subC, mulC, divC, Cpu.set, Cpu.next, bn]
    | 4, hi =>
      obtain rfl : wi true 8 0 2 10 = i := by simpa [wL] using hi
      rw [(step_mul _ _ _ _ (by omega) (by omega) (by omega))]
      simp [wD, w1, w2, w3, w4, w5, w6, vD, v1, v2, w0, addC, subC, mulC, divC, Cpu.set, Cpu.next, bn]
    | 5, hi =>
      obtain rfl : wi true 9 0 0 0 = i := by simpa [wL] using hi
      rw [(step_h _ _ (by omega))]
      simp [wD, w1, w2, w3, w4, w5, w6, vD, v1, v2, w0, addC, subC, mulC, divC, Cpu.set, Cpu.next, bn]
    | k + 6, hi => simp [wL] at hi

theorem does_v {c : Cpu} (h : c.Ok) {a0 a1 b0 b1 : Int} (h1 : 0 ≤ a0 ∧ a0 < 4294967296) (h2 : 0 ≤ a1 ∧ a1 < 4294967296) (h3 : 0 < b0 ∧ b0 < 2147483648) (h4 : 0 ≤ b1 ∧ b1 < 4294967296) :
    Does (w0 c a0 a1 b0 b1) vL (vD c a0 a1 b0 b1) (fun _ => Ev.none) := by
  have k0 := w0_ok h h1 h2 (b0 := b0) (by omega) h4
  have k1 : (v1 c a0 a1 b0 b1).Ok := divC_ok (ok_next k0) _ h3
  refine ⟨rfl, fun k hkk => ?_, fun i hi => ?_, fun k i hi => ?_⟩
  · match k, hkk with
    | 0, _ => exact k0
    | 1, _ => exact k1
    | 2, _ => exact set_ok (ok_next k1) (rem_bd h3)
    | k + 3, h => exact absurd h (by simp [vL])
  · simp only [vL, List.mem_cons, List.not_mem_nil, or_false] at hi
    rcases hi with rfl | rfl <;> first | exact wi_may (by omega) (by omega) (by omega) (.inr ⟨rfl, rfl⟩) | exact wm_may (by omega)
  · match k, hi with
    | 0, hi =>
      obtain rfl : wi false 4 0 2 11 = i := by simpa [vL] using hi
      rw [(step_div _ _ _ _ (by omega) (by omega) (by omega) (by simp [vD, w0]; omega))]
      simp [wD, w1, w2, w3, w4, w5, w6, vD, v1, v2, w0, addC, subC, mulC, divC, Cpu.set, Cpu.next, bn]
    | 1, hi =>
      obtain rfl : wi true 5 0 0 0 = i := by simpa [vL] using hi
      rw [(step_h _ _ (by omega))]
      simp [wD, w1, w2, w3, w4, w5, w6, vD, v1, v2, w0, addC, subC, mulC, divC, Cpu.set, Cpu.next, bn]
    | k + 2, hi => simp [vL] at hi

/-- the registers behind them. -/
theorem w6_regs (c : Cpu) (a0 a1 b0 b1 : Int) : (w6 c a0 a1 b0 b1).r 4 = W.wd (a0 + b0) ∧ (w6 c a0 a1 b0 b1).r 5 = W.wd (a1 + b1 + bn (decide (4294967296 ≤ a0 + b0)) 1) ∧ (w6 c a0 a1 b0 b1).r 6 = W.wd (a0 - b0) ∧ (w6 c a0 a1 b0 b1).r 7 = W.wd (a1 - b1 - bn (decide (a0 - b0 < 0)) 1) ∧ (w6 c a0 a1 b0 b1).r 8 = W.mulLo false a0 b0 ∧ (w6 c a0 a1 b0 b1).r 9 = W.mulHi false a0 b0 := by
  simp [w6, w5, w4, w3, w2, w1, addC, subC, mulC, Cpu.set, Cpu.next]
theorem v2_regs (c : Cpu) (a0 a1 b0 b1 : Int) : (v2 c a0 a1 b0 b1).r 4 = W.quo a0 b0 ∧ (v2 c a0 a1 b0 b1).r 5 = W.rem a0 b0 := by
  simp [v2, v1, divC, Cpu.set, Cpu.next]

/-- numbers of 64 bits. -/
theorem wide_sum {a b : Int} (ha : 0 ≤ a ∧ a < 18446744073709551616) (hb : 0 ≤ b ∧ b < 18446744073709551616) : W.wd (a / 4294967296 + b / 4294967296 + bn (decide (4294967296 ≤ a % 4294967296 + b % 4294967296)) 1) * 4294967296 + W.wd (a % 4294967296 + b % 4294967296) = (a + b) % 18446744073709551616 := by
  unfold W.wd
  by_cases h : 4294967296 ≤ a % 4294967296 + b % 4294967296
  · rw [decide_eq_true h]; simp only [bn, if_true]; omega
  · rw [decide_eq_false h]; simp only [bn]; simp only [Bool.false_eq_true, if_false]; omega
theorem wide_less {a b : Int} (ha : 0 ≤ a ∧ a < 18446744073709551616) (hb : 0 ≤ b ∧ b < 18446744073709551616) : W.wd (a / 4294967296 - b / 4294967296 - bn (decide (a % 4294967296 - b % 4294967296 < 0)) 1) * 4294967296 + W.wd (a % 4294967296 - b % 4294967296) = (a - b) % 18446744073709551616 := by
  unfold W.wd
  by_cases h : a % 4294967296 - b % 4294967296 < 0
  · rw [decide_eq_true h]; simp only [bn, if_true]; omega
  · rw [decide_eq_false h]; simp only [bn]; simp only [Bool.false_eq_true, if_false]; omega
theorem wide_mul (p q : Int) : W.mulHi false p q * 4294967296 + W.mulLo false p q = p * q := by
  unfold W.mulHi W.mulLo; simp; omega

end Go.Proofs.Ytkeaogphaifnmaa
