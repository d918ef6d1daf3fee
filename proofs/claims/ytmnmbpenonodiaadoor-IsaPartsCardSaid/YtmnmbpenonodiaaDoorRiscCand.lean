/- Plain: of all instructions that a word could be, the one whose word it is. -/
import Derived.Test.YtmnmbpenonodiaaDoorRiscPlain
namespace Go.Proofs.YtmnmbpenonodiaaDoor
set_option linter.unusedVariables false
set_option linter.unusedSimpArgs false
open Go.RowKit

/-- the seven that a word could be. -/
def cand (x : Int) : Nat → Ins
  | 0 => ⟨0, decide (x / 536870912 % 2 = 1), false, x / 16777216 % 16, x / 1048576 % 16, x % 16, x / 65536 % 16, 0, 0, 0, 0⟩
  | 1 => ⟨1, decide (x / 536870912 % 2 = 1), decide (x / 268435456 % 2 = 1), x / 16777216 % 16, x / 1048576 % 16, 0, x / 65536 % 16, x % 65536, 0, 0, 0⟩
  | 2 => ⟨2, false, decide (x / 268435456 % 2 = 1), x / 16777216 % 16, x / 1048576 % 16, 0, 0, 0, W.sg (W.ext x 20), 0, 0⟩
  | 3 => ⟨3, false, decide (x / 268435456 % 2 = 1), x / 16777216 % 16, x / 1048576 % 16, 0, 0, 0, W.sg (W.ext x 20), 0, 0⟩
  | 4 => ⟨4, false, decide (x / 268435456 % 2 = 1), 0, 0, 0, 0, 0, W.sg (W.ext x 24), x / 16777216 % 16, 0⟩
  | 5 => ⟨5, false, decide (x / 268435456 % 2 = 1), 0, 0, x % 16, 0, 0, 0, x / 16777216 % 16, 0⟩
  | _ => ⟨6, false, false, 0, 0, 0, 0, 0, 0, x / 16777216 % 16, x / 16 % 256⟩

theorem cand_form (x : Int) (k : Nat) (h : k ≤ 6) : (cand x k).form = k := by
  match k, h with
  | 0, _ | 1, _ | 2, _ | 3, _ | 4, _ | 5, _ | 6, _ => rfl
  | k + 7, h => exact absurd h (by omega)

theorem ext20_is {x : Int} : W.sg (W.ext x 20) = if 524288 ≤ x % 1048576 then x % 1048576 - 1048576 else x % 1048576 := by
  unfold W.ext
  simp only [Int.reducePow, Nat.reduceSub]
  split <;> exact W.wd_sg (by omega) (by omega)
theorem ext24_is {x : Int} : W.sg (W.ext x 24) = if 8388608 ≤ x % 16777216 then x % 16777216 - 16777216 else x % 16777216 := by
  unfold W.ext
  simp only [Int.reducePow, Nat.reduceSub]
  split <;> exact W.wd_sg (by omega) (by omega)
theorem ext20_bd (x : Int) : -524288 ≤ W.sg (W.ext x 20) ∧ W.sg (W.ext x 20) ≤ 524287 ∧ W.sg (W.ext x 20) % 1048576 = x % 1048576 := by
  rw [ext20_is]; split <;> omega
theorem ext24_bd (x : Int) : -8388608 ≤ W.sg (W.ext x 24) ∧ W.sg (W.ext x 24) ≤ 8388607 ∧ W.sg (W.ext x 24) % 16777216 = x % 16777216 := by
  rw [ext24_is]; split <;> omega

theorem b01_dec (p : Prop) [Decidable p] : b01 (decide p) = if p then 1 else 0 := by
  by_cases h : p <;> simp [b01, h]

/-- a word that is an instruction is that one's word. -/
theorem of_word {x : Int} (hx : 0 ≤ x ∧ x < 4294967296) (hg : good (flds x) = true) : (flds x).May ∧ wordR (flds x) = x := by
  have e20 := ext20_bd x
  have e24 := ext24_bd x
  by_cases h1 : x / 536870912 ≤ 1
  · have hf : flds x = ⟨0, decide (x / 536870912 = 1), decide (x / 268435456 % 2 = 1), x / 16777216 % 16, x / 1048576 % 16, x % 65536, x / 65536 % 16, 0, 0, 0, 0⟩ := by unfold flds; rw [if_pos h1]
    rw [hf] at hg ⊢
    simp [good, mayOp] at hg
    obtain ⟨⟨⟨hv, hc⟩, ho⟩, hm⟩ := hg
    clear e20 e24 hf
    constructor
    · constructor <;> simp only [] <;> first | omega | (intro h; omega) | (intros; simp; done) | (intros; simp; omega) | skip
      · intro _ hu
        (try simp at hu)
        split at hm
        · omega
        · (try simp at hm) ; omega
      · intro _ h0
        rw [if_pos h0] at hm
        (try simp at hm)
        refine ⟨hm.1, fun hu => .inr ⟨trivial, ?_⟩⟩
        simp at hu
        omega
    · simp only [wordR, fld, b01_dec]
      simp
      split <;> omega
  · by_cases h2 : x / 536870912 ≤ 3
    · have hf : flds x = ⟨1, decide (x / 536870912 = 3), decide (x / 268435456 % 2 = 1), x / 16777216 % 16, x / 1048576 % 16, 0, x / 65536 % 16, x % 65536, 0, 0, 0⟩ := by unfold flds; rw [if_neg h1, if_pos h2]
      rw [hf] at hg ⊢
      simp [good, mayOp] at hg
      obtain ⟨ho, hm⟩ := hg
      clear e20 e24 hf
      constructor
      · constructor <;> simp only [] <;> first | omega | (intro h; omega) | (intros; simp; done) | (intros; simp; omega) | skip
        · intro _ hu
          (try simp at hu)
          split at hm
          · omega
          · (try simp at hm) ; omega
        · intro _ h0
          rw [if_pos h0] at hm
          (try simp at hm)
          refine ⟨hm.1, fun hu => .inl ⟨trivial, ?_⟩⟩
          simp at hu ⊢
          omega
      · simp only [wordR, fld, b01_dec]
        simp
        (repeat' split) <;> omega
    · by_cases h3 : x / 536870912 ≤ 5
      · have hf : flds x = ⟨x / 536870912 - 2, false, decide (x / 268435456 % 2 = 1), x / 16777216 % 16, x / 1048576 % 16, 0, 0, 0, W.sg (W.ext x 20), 0, 0⟩ := by unfold flds; rw [if_neg h1, if_neg h2, if_pos h3]
        rw [hf]
        generalize W.sg (W.ext x 20) = f at e20 ⊢
        constructor
        · constructor <;> simp only [] <;> first | omega | (intro h; omega) | (intros; simp; done) | (intros; simp; omega) | skip
        · rcases (by omega : x / 536870912 = 4 ∨ x / 536870912 = 5) with h | h
          · simp only [wordR, fld, b01_dec, h]
            simp
            (repeat' split) <;> omega
          · simp only [wordR, fld, b01_dec, h]
            simp
            (repeat' split) <;> omega
      · by_cases h4 : x / 536870912 = 7
        · have hf : flds x = ⟨4, false, decide (x / 268435456 % 2 = 1), 0, 0, 0, 0, 0, W.sg (W.ext x 24), x / 16777216 % 16, 0⟩ := by unfold flds; rw [if_neg h1, if_neg h2, if_neg h3, if_pos h4]
          rw [hf]
          generalize W.sg (W.ext x 24) = f at e24 ⊢
          constructor
          · constructor <;> simp only [] <;> first | omega | (intro h; omega) | (intros; simp; done) | (intros; simp; omega) | skip
          · simp only [wordR, fld, b01_dec]
            simp
            (repeat' split) <;> omega
        · by_cases h5 : x / 268435456 % 2 = 1 ∧ x % 16 = 12
          · have hf : flds x = ⟨6, false, false, 0, 0, 0, 0, 0, 0, x / 16777216 % 16, x / 16 % 1048576⟩ := by unfold flds; rw [if_neg h1, if_neg h2, if_neg h3, if_neg h4, if_pos h5]
            rw [hf] at hg ⊢
            simp [good] at hg
            constructor
            · constructor <;> simp only [] <;> first | omega | (intro h; omega) | (intros; simp; done) | (intros; simp; omega) | skip
            · simp only [wordR, fld, b01_dec]
              simp
              (repeat' split) <;> omega
          · have hf : flds x = ⟨5, false, decide (x / 268435456 % 2 = 1), 0, 0, x % 16777216, 0, 0, 0, x / 16777216 % 16, 0⟩ := by unfold flds; rw [if_neg h1, if_neg h2, if_neg h3, if_neg h4, if_neg h5]
            rw [hf] at hg ⊢
            simp [good] at hg
            constructor
            · constructor <;> simp only [] <;> first | omega | (intro h; omega) | (intros; simp; done) | (intros; simp; omega) | skip
            · simp only [wordR, fld, b01_dec]
              simp
              (repeat' split) <;> omega

theorem cand_is {x : Int} (hx : 0 ≤ x ∧ x < 4294967296) (hg : good (flds x) = true) {k : Nat} (hk : (flds x).form = k) : cand x k = flds x := by
  have hb := (flds_bd hx).1
  have hk6 : k ≤ 6 := by omega
  unfold flds at *
  split at hg
  · rename_i h; rw [if_pos h] at hk ⊢; simp only [] at hk
    obtain rfl : k = 0 := by omega
    simp [good] at hg
    apply Ins.ext' <;> simp only [cand] <;> first | rfl | omega | (simp; omega)
  · rename_i h1; rw [if_neg h1] at hk ⊢
    split at hg
    · rename_i h; rw [if_pos h] at hk ⊢; simp only [] at hk
      obtain rfl : k = 1 := by omega
      apply Ins.ext' <;> simp only [cand] <;> first | rfl | omega | (simp; omega)
    · rename_i h2; rw [if_neg h2] at hk ⊢
      split at hg
      · rename_i h; rw [if_pos h] at hk ⊢; simp only [] at hk
        rcases (by omega : k = 2 ∨ k = 3) with rfl | rfl <;> (apply Ins.ext' <;> simp only [cand] <;> first | rfl | omega | (simp; omega))
      · rename_i h3; rw [if_neg h3] at hk ⊢
        split at hg
        · rename_i h; rw [if_pos h] at hk ⊢; simp only [] at hk
          obtain rfl : k = 4 := by omega
          apply Ins.ext' <;> simp only [cand] <;> first | rfl | omega | (simp; omega)
        · rename_i h4; rw [if_neg h4] at hk ⊢
          split at hg
          · rename_i h; rw [if_pos h] at hk ⊢; simp only [] at hk
            obtain rfl : k = 6 := by omega
            simp [good] at hg
            apply Ins.ext' <;> simp only [cand] <;> first | rfl | omega | (simp; omega)
          · rename_i h; rw [if_neg h] at hk ⊢; simp only [] at hk
            obtain rfl : k = 5 := by omega
            simp [good] at hg
            apply Ins.ext' <;> simp only [cand] <;> first | rfl | omega | (simp; omega)

theorem cand_yes {x : Int} (hx : 0 ≤ x ∧ x < 4294967296) (hg : good (flds x) = true) {k : Nat} (hk : (flds x).form = k) : (cand x k).May ∧ wordR (cand x k) = x := by
  rw [cand_is hx hg hk]; exact of_word hx hg
theorem cand_no {x : Int} {k : Nat} (hk : k ≤ 6) (h : (cand x k).May) (hw : wordR (cand x k) = x) : good (flds x) = true ∧ (flds x).form = k := by
  obtain ⟨_, h2, h3⟩ := word_of h
  rw [hw] at h2
  rw [h2]
  exact ⟨h3, cand_form x k hk⟩

end Go.Proofs.YtmnmbpenonodiaaDoor
