/- Plain: an instruction's word is read as it. -/
import Derived.Test.YtmnmbpenonodiaaDoorRefWord
import Derived.Test.YtmnmbpenonodiaaDoorRiscStep
namespace Go.Proofs.YtmnmbpenonodiaaDoor
set_option linter.unusedVariables false
set_option linter.unusedSimpArgs false
open Go.RowKit

/-- which instructions may be. -/
structure Ins.May (i : Ins) : Prop where
  form : 0 ≤ i.form ∧ i.form ≤ 6
  a : 0 ≤ i.a ∧ i.a ≤ 15
  b : 0 ≤ i.b ∧ i.b ≤ 15
  c : 0 ≤ i.c ∧ i.c ≤ 15
  op : 0 ≤ i.op ∧ i.op ≤ 11
  im : 0 ≤ i.im ∧ i.im ≤ 65535
  cond : 0 ≤ i.cond ∧ i.cond ≤ 15
  n : 0 ≤ i.n ∧ i.n ≤ 255
  reg : i.form = 0 → i.v = false ∧ i.im = 0 ∧ i.off = 0 ∧ i.cond = 0 ∧ i.n = 0
  imm : i.form = 1 → i.c = 0 ∧ i.off = 0 ∧ i.cond = 0 ∧ i.n = 0
  mem : i.form = 2 ∨ i.form = 3 → i.u = false ∧ i.c = 0 ∧ i.op = 0 ∧ i.im = 0 ∧ i.cond = 0 ∧ i.n = 0 ∧ -524288 ≤ i.off ∧ i.off ≤ 524287
  jump : i.form = 4 → i.u = false ∧ i.a = 0 ∧ i.b = 0 ∧ i.c = 0 ∧ i.op = 0 ∧ i.im = 0 ∧ i.n = 0 ∧ -8388608 ≤ i.off ∧ i.off ≤ 8388607
  to : i.form = 5 → i.u = false ∧ i.a = 0 ∧ i.b = 0 ∧ i.op = 0 ∧ i.im = 0 ∧ i.off = 0 ∧ i.n = 0 ∧ ¬ (i.v = true ∧ i.c = 12)
  sys : i.form = 6 → i.u = false ∧ i.v = false ∧ i.a = 0 ∧ i.b = 0 ∧ i.c = 0 ∧ i.op = 0 ∧ i.im = 0 ∧ i.off = 0
  odd : i.form ≤ 1 → i.u = true → i.op = 0 ∨ i.op = 8 ∨ i.op = 9 ∨ i.op = 10
  mov : i.form ≤ 1 → i.op = 0 → i.b = 0 ∧ (i.u = true → (i.form = 1 ∧ i.v = false) ∨ (i.form = 0 ∧ i.c < 2))

theorem b01_v (f : Bool) : b01 f = 0 ∧ f = false ∨ b01 f = 1 ∧ f = true := by cases f <;> simp [b01]

theorem Ins.ext' {i j : Ins} (h1 : i.form = j.form) (h2 : i.u = j.u) (h3 : i.v = j.v) (h4 : i.a = j.a) (h5 : i.b = j.b) (h6 : i.c = j.c) (h7 : i.op = j.op) (h8 : i.im = j.im) (h9 : i.off = j.off) (h10 : i.cond = j.cond) (h11 : i.n = j.n) : i = j := by
  cases i; cases j; simp_all

theorem sg_ext20 {x off : Int} (h : x % 1048576 = off % 1048576) (ho : -524288 ≤ off ∧ off ≤ 524287) : W.sg (W.ext x 20) = off := by
  unfold W.ext W.wd W.sg
  simp only [Int.reducePow, Nat.reduceSub, h]
  (repeat' split) <;> omega
theorem sg_ext24 {x off : Int} (h : x % 16777216 = off % 16777216) (ho : -8388608 ≤ off ∧ off ≤ 8388607) : W.sg (W.ext x 24) = off := by
  unfold W.ext W.wd W.sg
  simp only [Int.reducePow, Nat.reduceSub, h]
  (repeat' split) <;> omega

set_option maxHeartbeats 4000000 in
theorem word_of {i : Ins} (h : i.May) : (0 ≤ wordR i ∧ wordR i < 4294967296) ∧ flds (wordR i) = i ∧ good i = true := by
  obtain ⟨form, u, v, a, b, c, op, im, off, cond, n⟩ := i
  obtain ⟨hf, ha, hb, hc, ho, hi, hd, hn, h0, h1, h2, h4, h5, h6, hu, hm⟩ := h
  simp only at *
  have hfs : form = 0 ∨ form = 1 ∨ form = 2 ∨ form = 3 ∨ form = 4 ∨ form = 5 ∨ form = 6 := by omega
  have pu := b01_v u
  have pv := b01_v v
  rcases hfs with rfl | rfl | rfl | rfl | rfl | rfl | rfl
  · obtain ⟨rfl, rfl, rfl, rfl, rfl⟩ := h0 rfl
    have hu1 := hu (by omega)
    have hm1 := hm (by omega)
    clear h0 h1 h2 h4 h5 h6 hu hm
    obtain ⟨x, hx⟩ : ∃ x, x = wordR ⟨0, u, false, a, b, c, op, 0, 0, 0, 0⟩ := ⟨_, rfl⟩
    rw [← hx]
    simp [wordR, fld, b01] at hx
    have hq : x = b01 u * 536870912 + a * 16777216 + b * 1048576 + op * 65536 + c := by
      rcases pu with ⟨e, rfl⟩ | ⟨e, rfl⟩ <;> simp at hx <;> rw [e] <;> omega
    clear hx
    refine ⟨by omega, ?_, ?_⟩
    · unfold flds
      rw [if_pos (by omega)]
      rcases pu with ⟨e, rfl⟩ | ⟨e, rfl⟩ <;> rw [e] at hq <;> (apply Ins.ext' <;> simp only [] <;> first | omega | (simp; omega) | (simp; done))
    · clear hq pu pv
      cases u <;> by_cases h00 : op = 0 <;> simp [good, mayOp, h00] at * <;> omega
  · obtain ⟨rfl, rfl, rfl, rfl⟩ := h1 rfl
    have hu1 := hu (by omega)
    have hm1 := hm (by omega)
    clear h0 h1 h2 h4 h5 h6 hu hm
    obtain ⟨x, hx⟩ : ∃ x, x = wordR ⟨1, u, v, a, b, 0, op, im, 0, 0, 0⟩ := ⟨_, rfl⟩
    rw [← hx]
    simp [wordR, fld] at hx
    have hq : x = 1073741824 + b01 u * 536870912 + b01 v * 268435456 + a * 16777216 + b * 1048576 + op * 65536 + im := by
      omega
    clear hx
    refine ⟨by omega, ?_, ?_⟩
    · unfold flds
      rw [if_neg (by omega), if_pos (by omega)]
      rcases pu with ⟨e, rfl⟩ | ⟨e, rfl⟩ <;> rcases pv with ⟨e', rfl⟩ | ⟨e', rfl⟩ <;> simp only [e, e'] at hq <;> (apply Ins.ext' <;> simp only [] <;> first | omega | (simp; omega) | (simp; done))
    · clear hq pu pv
      cases u <;> cases v <;> by_cases h00 : op = 0 <;> simp [good, mayOp, h00] at * <;> omega
  · obtain ⟨rfl, rfl, rfl, rfl, rfl, rfl, ho1, ho2⟩ := h2 (.inl rfl)
    clear h0 h1 h2 h4 h5 h6 hu hm
    obtain ⟨x, hx⟩ : ∃ x, x = wordR ⟨2, false, v, a, b, 0, 0, 0, off, 0, 0⟩ := ⟨_, rfl⟩
    rw [← hx]
    simp [wordR, fld] at hx
    have hq : x = 2147483648 + b01 v * 268435456 + a * 16777216 + b * 1048576 + off % 1048576 := by omega
    clear hx
    refine ⟨by omega, ?_, by simp [good]⟩
    have he := sg_ext20 (x := x) (off := off) (by omega) ⟨ho1, ho2⟩
    unfold flds
    rw [if_neg (by omega), if_neg (by omega), if_pos (by omega), he]
    rcases pv with ⟨e', rfl⟩ | ⟨e', rfl⟩ <;> rw [e'] at hq <;> (apply Ins.ext' <;> simp only [] <;> first | omega | (simp; omega) | (simp; done))
  · obtain ⟨rfl, rfl, rfl, rfl, rfl, rfl, ho1, ho2⟩ := h2 (.inr rfl)
    clear h0 h1 h2 h4 h5 h6 hu hm
    obtain ⟨x, hx⟩ : ∃ x, x = wordR ⟨3, false, v, a, b, 0, 0, 0, off, 0, 0⟩ := ⟨_, rfl⟩
    rw [← hx]
    simp [wordR, fld] at hx
    have hq : x = 2684354560 + b01 v * 268435456 + a * 16777216 + b * 1048576 + off % 1048576 := by omega
    clear hx
    refine ⟨by omega, ?_, by simp [good]⟩
    have he := sg_ext20 (x := x) (off := off) (by omega) ⟨ho1, ho2⟩
    unfold flds
    rw [if_neg (by omega), if_neg (by omega), if_pos (by omega), he]
    rcases pv with ⟨e', rfl⟩ | ⟨e', rfl⟩ <;> rw [e'] at hq <;> (apply Ins.ext' <;> simp only [] <;> first | omega | (simp; omega) | (simp; done))
  · obtain ⟨rfl, rfl, rfl, rfl, rfl, rfl, rfl, ho1, ho2⟩ := h4 rfl
    clear h0 h1 h2 h4 h5 h6 hu hm
    obtain ⟨x, hx⟩ : ∃ x, x = wordR ⟨4, false, v, 0, 0, 0, 0, 0, off, cond, 0⟩ := ⟨_, rfl⟩
    rw [← hx]
    simp [wordR, fld] at hx
    have hq : x = 3758096384 + b01 v * 268435456 + cond * 16777216 + off % 16777216 := by omega
    clear hx
    refine ⟨by omega, ?_, by simp [good]⟩
    have he := sg_ext24 (x := x) (off := off) (by omega) ⟨ho1, ho2⟩
    unfold flds
    rw [if_neg (by omega), if_neg (by omega), if_neg (by omega), if_pos (by omega), he]
    rcases pv with ⟨e', rfl⟩ | ⟨e', rfl⟩ <;> rw [e'] at hq <;> (apply Ins.ext' <;> simp only [] <;> first | omega | (simp; omega) | (simp; done))
  · obtain ⟨rfl, rfl, rfl, rfl, rfl, rfl, rfl, hv⟩ := h5 rfl
    clear h0 h1 h2 h4 h5 h6 hu hm
    obtain ⟨x, hx⟩ : ∃ x, x = wordR ⟨5, false, v, 0, 0, c, 0, 0, 0, cond, 0⟩ := ⟨_, rfl⟩
    rw [← hx]
    simp [wordR, fld] at hx
    have hq : x = 3221225472 + b01 v * 268435456 + cond * 16777216 + c := by omega
    clear hx
    refine ⟨by omega, ?_, by simp [good]; omega⟩
    unfold flds
    rcases pv with ⟨e', rfl⟩ | ⟨e', rfl⟩
    · rw [e'] at hq
      rw [if_neg (by omega), if_neg (by omega), if_neg (by omega), if_neg (by omega), if_neg (by omega)]
      (apply Ins.ext' <;> simp only [] <;> first | omega | (simp; omega) | (simp; done))
    · rw [e'] at hq
      have hc12 : c ≠ 12 := by intro h; exact hv ⟨rfl, h⟩
      rw [if_neg (by omega), if_neg (by omega), if_neg (by omega), if_neg (by omega), if_neg (by omega)]
      (apply Ins.ext' <;> simp only [] <;> first | omega | (simp; omega) | (simp; done))
  · obtain ⟨rfl, rfl, rfl, rfl, rfl, rfl, rfl, rfl⟩ := h6 rfl
    clear h0 h1 h2 h4 h5 h6 hu hm
    obtain ⟨x, hx⟩ : ∃ x, x = wordR ⟨6, false, false, 0, 0, 0, 0, 0, 0, cond, n⟩ := ⟨_, rfl⟩
    rw [← hx]
    simp [wordR, fld] at hx
    have hq : x = 3221225472 + 268435456 + cond * 16777216 + n * 16 + 12 := by omega
    clear hx
    refine ⟨by omega, ?_, by simp [good]; omega⟩
    unfold flds
    rw [if_neg (by omega), if_neg (by omega), if_neg (by omega), if_neg (by omega), if_pos (by omega)]
    (apply Ins.ext' <;> simp only [] <;> first | omega | (simp; omega) | (simp; done))

end Go.Proofs.YtmnmbpenonodiaaDoor
