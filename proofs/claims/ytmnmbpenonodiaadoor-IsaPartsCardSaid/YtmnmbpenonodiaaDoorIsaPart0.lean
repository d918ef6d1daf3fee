/- Plain: of two words that differ in one bit and are read as one form, one part is another. -/
import Derived.Test.YtmnmbpenonodiaaDoorRiscPlain
import Derived.Test.YtmnmbpenonodiaaDoorRiscIsa
namespace Go.Proofs.YtmnmbpenonodiaaDoor
set_option linter.unusedVariables false
set_option linter.unusedSimpArgs false
open Go.RowKit

/-- an instruction's parts, as numbers. -/
def Ins.part (i : Ins) (k : Nat) : Int := [b01 i.u, b01 i.v, i.a, i.b, i.c, i.op, i.im, i.off, i.cond + 16 * i.n].getD k 0

def fldsF (t v a b o l16 s20 s24 l24 l4 n : Int) : Ins :=
  if t ≤ 1 then ⟨0, decide (t = 1), decide (v = 1), a, b, l16, o, 0, 0, 0, 0⟩
  else if t ≤ 3 then ⟨1, decide (t = 3), decide (v = 1), a, b, 0, o, l16, 0, 0, 0⟩
  else if t ≤ 5 then ⟨t - 2, false, decide (v = 1), a, b, 0, 0, 0, s20, 0, 0⟩
  else if t = 7 then ⟨4, false, decide (v = 1), 0, 0, 0, 0, 0, s24, a, 0⟩
  else if v = 1 ∧ l4 = 12 then ⟨6, false, false, 0, 0, 0, 0, 0, 0, a, n⟩
  else ⟨5, false, decide (v = 1), 0, 0, l24, 0, 0, 0, a, 0⟩

theorem flds_F (x : Int) : flds x = fldsF (x / 536870912) (x / 268435456 % 2) (x / 16777216 % 16) (x / 1048576 % 16) (x / 65536 % 16) (x % 65536) (W.sg (W.ext x 20)) (W.sg (W.ext x 24)) (x % 16777216) (x % 16) (x / 16 % 1048576) := rfl

theorem field_nat (X b f s : Nat) : (X ^^^ 2 ^ b) / 2 ^ f % 2 ^ s = X / 2 ^ f % 2 ^ s ↔ ¬ (f ≤ b ∧ b < f + s) := by
  constructor
  · intro h hb
    have h1 := congrArg (fun z => z.testBit (b - f)) h
    simp only [Nat.testBit_mod_two_pow, Nat.testBit_div_two_pow, Nat.testBit_xor, Nat.testBit_two_pow] at h1
    have e : b - f + f = b := by omega
    have e' : f + (b - f) = b := by omega
    simp [e, e', show b - f < s by omega] at h1
  · intro h
    apply Nat.eq_of_testBit_eq
    intro i
    simp only [Nat.testBit_mod_two_pow, Nat.testBit_div_two_pow, Nat.testBit_xor, Nat.testBit_two_pow]
    by_cases hi : i < s
    · have : ¬ (b = f + i) := by omega
      have : ¬ (b = i + f) := by omega
      simp [hi, *]
    · simp [hi]

theorem field_int (X b f s : Nat) (F S : Int) (hF : F = ((2 ^ f : Nat) : Int)) (hS : S = ((2 ^ s : Nat) : Int)) : (((X ^^^ 2 ^ b : Nat) : Int) / F % S = (X : Int) / F % S) ↔ ¬ (f ≤ b ∧ b < f + s) := by
  rw [← field_nat X b f s, hF, hS]
  constructor <;> intro h
  · exact_mod_cast h
  · exact_mod_cast h

/-- the fields of two words that differ in a bit. -/
structure Diff (β : Nat) (t v a b o l16 s20 s24 l24 l4 n t' v' a' b' o' l16' s20' s24' l24' l4' n' : Int) : Prop where
  ht : t' = t ↔ ¬ (29 ≤ β ∧ β < 29 + 3)
  hv : v' = v ↔ ¬ (28 ≤ β ∧ β < 28 + 1)
  ha : a' = a ↔ ¬ (24 ≤ β ∧ β < 24 + 4)
  hb : b' = b ↔ ¬ (20 ≤ β ∧ β < 20 + 4)
  ho : o' = o ↔ ¬ (16 ≤ β ∧ β < 16 + 4)
  h16 : l16' = l16 ↔ ¬ (0 ≤ β ∧ β < 0 + 16)
  h20 : s20' = s20 ↔ ¬ (0 ≤ β ∧ β < 0 + 20)
  h24 : s24' = s24 ↔ ¬ (0 ≤ β ∧ β < 0 + 24)
  hl24 : l24' = l24 ↔ ¬ (0 ≤ β ∧ β < 0 + 24)
  hl4 : l4' = l4 ↔ ¬ (0 ≤ β ∧ β < 0 + 4)
  hn : n' = n ↔ ¬ (4 ≤ β ∧ β < 4 + 20)
  rt : 0 ≤ t ∧ t ≤ 7
  rt' : 0 ≤ t' ∧ t' ≤ 7
  rv : 0 ≤ v ∧ v ≤ 1
  rv' : 0 ≤ v' ∧ v' ≤ 1
  ra : 0 ≤ a ∧ a ≤ 15
  ra' : 0 ≤ a' ∧ a' ≤ 15

theorem flds_six (t v a b o l16 s20 s24 l24 l4 n : Int) (rt : 0 ≤ t ∧ t ≤ 7) :
    (t ≤ 1 ∧ fldsF t v a b o l16 s20 s24 l24 l4 n = ⟨0, decide (t = 1), decide (v = 1), a, b, l16, o, 0, 0, 0, 0⟩) ∨
    ((2 ≤ t ∧ t ≤ 3) ∧ fldsF t v a b o l16 s20 s24 l24 l4 n = ⟨1, decide (t = 3), decide (v = 1), a, b, 0, o, l16, 0, 0, 0⟩) ∨
    ((4 ≤ t ∧ t ≤ 5) ∧ fldsF t v a b o l16 s20 s24 l24 l4 n = ⟨t - 2, false, decide (v = 1), a, b, 0, 0, 0, s20, 0, 0⟩) ∨
    (t = 7 ∧ fldsF t v a b o l16 s20 s24 l24 l4 n = ⟨4, false, decide (v = 1), 0, 0, 0, 0, 0, s24, a, 0⟩) ∨
    ((t = 6 ∧ v = 1 ∧ l4 = 12) ∧ fldsF t v a b o l16 s20 s24 l24 l4 n = ⟨6, false, false, 0, 0, 0, 0, 0, 0, a, n⟩) ∨
    ((t = 6 ∧ ¬ (v = 1 ∧ l4 = 12)) ∧ fldsF t v a b o l16 s20 s24 l24 l4 n = ⟨5, false, decide (v = 1), 0, 0, l24, 0, 0, 0, a, 0⟩) := by
  unfold fldsF
  by_cases h1 : t ≤ 1
  · exact .inl ⟨h1, by rw [if_pos h1]⟩
  by_cases h2 : t ≤ 3
  · exact .inr (.inl ⟨by omega, by rw [if_neg h1, if_pos h2]⟩)
  by_cases h3 : t ≤ 5
  · exact .inr (.inr (.inl ⟨by omega, by rw [if_neg h1, if_neg h2, if_pos h3]⟩))
  by_cases h4 : t = 7
  · exact .inr (.inr (.inr (.inl ⟨h4, by rw [if_neg h1, if_neg h2, if_neg h3, if_pos h4]⟩)))
  by_cases h5 : v = 1 ∧ l4 = 12
  · exact .inr (.inr (.inr (.inr (.inl ⟨⟨by omega, h5⟩, by rw [if_neg h1, if_neg h2, if_neg h3, if_neg h4, if_pos h5]⟩))))
  · exact .inr (.inr (.inr (.inr (.inr ⟨⟨by omega, h5⟩, by rw [if_neg h1, if_neg h2, if_neg h3, if_neg h4, if_neg h5]⟩))))

theorem nine {p : Nat → Prop} {d : Nat} (h0 : p 0 ↔ 0 = d) (h1 : p 1 ↔ 1 = d) (h2 : p 2 ↔ 2 = d) (h3 : p 3 ↔ 3 = d) (h4 : p 4 ↔ 4 = d) (h5 : p 5 ↔ 5 = d) (h6 : p 6 ↔ 6 = d) (h7 : p 7 ↔ 7 = d) (h8 : p 8 ↔ 8 = d) : ∀ k, k < 9 → (p k ↔ k = d) := by
  intro k hk
  match k, hk with
  | 0, _ => exact h0
  | 1, _ => exact h1
  | 2, _ => exact h2
  | 3, _ => exact h3
  | 4, _ => exact h4
  | 5, _ => exact h5
  | 6, _ => exact h6
  | 7, _ => exact h7
  | 8, _ => exact h8

theorem b01_ne (p q : Prop) [Decidable p] [Decidable q] : b01 (decide p) ≠ b01 (decide q) ↔ ¬ (p ↔ q) := by
  by_cases hp : p <;> by_cases hq : q <;> simp [b01, hp, hq]

section
variable {β : Nat} {t v a b o l16 s20 s24 l24 l4 n t' v' a' b' o' l16' s20' s24' l24' l4' n' : Int}
def Goal (t v a b o l16 s20 s24 l24 l4 n t' v' a' b' o' l16' s20' s24' l24' l4' n' : Int) : Prop := ∃ d, d < 9 ∧ ∀ k, k < 9 → ((fldsF t v a b o l16 s20 s24 l24 l4 n).part k ≠ (fldsF t' v' a' b' o' l16' s20' s24' l24' l4' n').part k ↔ k = d)

set_option maxHeartbeats 8000000 in
theorem core_0 (hβ : β < 32) (hr : 29 ≤ β) (D : Diff β t v a b o l16 s20 s24 l24 l4 n t' v' a' b' o' l16' s20' s24' l24' l4' n')
    (hf : (fldsF t v a b o l16 s20 s24 l24 l4 n).form = (fldsF t' v' a' b' o' l16' s20' s24' l24' l4' n').form) : Goal t v a b o l16 s20 s24 l24 l4 n t' v' a' b' o' l16' s20' s24' l24' l4' n' := by
  unfold Goal
  obtain ⟨ht, hv, ha, hb, ho, h16, h20, h24, hl24, hl4, hn, rt, rt', rv, rv', ra, ra'⟩ := D
  have nt : t' ≠ t := fun e => ht.1 e (by omega)
  have qv : v' = v := hv.2 (by omega)
  have qa : a' = a := ha.2 (by omega)
  have qb : b' = b := hb.2 (by omega)
  have qo : o' = o := ho.2 (by omega)
  have ql16 : l16' = l16 := h16.2 (by omega)
  have qs20 : s20' = s20 := h20.2 (by omega)
  have qs24 : s24' = s24 := h24.2 (by omega)
  have ql24 : l24' = l24 := hl24.2 (by omega)
  have ql4 : l4' = l4 := hl4.2 (by omega)
  have qn : n' = n := hn.2 (by omega)
  clear ht hv ha hb ho h16 h20 h24 hl24 hl4 hn hr hβ
  ( rcases flds_six t v a b o l16 s20 s24 l24 l4 n rt with ⟨c, e⟩ | ⟨c, e⟩ | ⟨c, e⟩ | ⟨c, e⟩ | ⟨c, e⟩ | ⟨c, e⟩ <;> rcases flds_six t' v' a' b' o' l16' s20' s24' l24' l4' n' rt' with ⟨c', e'⟩ | ⟨c', e'⟩ | ⟨c', e'⟩ | ⟨c', e'⟩ | ⟨c', e'⟩ | ⟨c', e'⟩ <;> rw [e, e'] at hf ⊢ <;> clear e e' <;> simp only at hf <;> first | (exfalso; omega) | (exfalso; simp at hf; done) | (exfalso; simp at hf; omega) | ( refine ⟨0, by decide, nine ?_ ?_ ?_ ?_ ?_ ?_ ?_ ?_ ?_⟩ <;> simp only [Ins.part, List.getD_cons_zero, List.getD_cons_succ, b01_ne] <;> first | omega | (simp; done) | (simp; omega)) | ( refine ⟨1, by decide, nine ?_ ?_ ?_ ?_ ?_ ?_ ?_ ?_ ?_⟩ <;> simp only [Ins.part, List.getD_cons_zero, List.getD_cons_succ, b01_ne] <;> first | omega | (simp; done) | (simp; omega)) | ( refine ⟨2, by decide, nine ?_ ?_ ?_ ?_ ?_ ?_ ?_ ?_ ?_⟩ <;> simp only [Ins.part, List.getD_cons_zero, List.getD_cons_succ, b01_ne] <;> first | omega | (simp; done) | (simp; omega)) | ( refine ⟨3, by decide, nine ?_ ?_ ?_ ?_ ?_ ?_ ?_ ?_ ?_⟩ <;> simp only [Ins.part, List.getD_cons_zero, List.getD_cons_succ, b01_ne] <;> first | omega | (simp; done) | (simp; omega)) | ( refine ⟨4, by decide, nine ?_ ?_ ?_ ?_ ?_ ?_ ?_ ?_ ?_⟩ <;> simp only [Ins.part, List.getD_cons_zero, List.getD_cons_succ, b01_ne] <;> first | omega | (simp; done) | (simp; omega)) | ( refine ⟨5, by decide, nine ?_ ?_ ?_ ?_ ?_ ?_ ?_ ?_ ?_⟩ <;> simp only [Ins.part, List.getD_cons_zero, List.getD_cons_succ, b01_ne] <;> first | omega | (simp; done) | (simp; omega)) | ( refine ⟨6, by decide, nine ?_ ?_ ?_ ?_ ?_ ?_ ?_ ?_ ?_⟩ <;> simp only [Ins.part, List.getD_cons_zero, List.getD_cons_succ, b01_ne] <;> first | omega | (simp; done) | (simp; omega)) | ( refine ⟨7, by decide, nine ?_ ?_ ?_ ?_ ?_ ?_ ?_ ?_ ?_⟩ <;> simp only [Ins.part, List.getD_cons_zero, List.getD_cons_succ, b01_ne] <;> first | omega | (simp; done) | (simp; omega)) | ( refine ⟨8, by decide, nine ?_ ?_ ?_ ?_ ?_ ?_ ?_ ?_ ?_⟩ <;> simp only [Ins.part, List.getD_cons_zero, List.getD_cons_succ, b01_ne] <;> first | omega | (simp; done) | (simp; omega)))

set_option maxHeartbeats 8000000 in
theorem core_1 (hβ : β < 32) (hr : 28 ≤ β ∧ β < 29) (D : Diff β t v a b o l16 s20 s24 l24 l4 n t' v' a' b' o' l16' s20' s24' l24' l4' n')
    (hf : (fldsF t v a b o l16 s20 s24 l24 l4 n).form = (fldsF t' v' a' b' o' l16' s20' s24' l24' l4' n').form) : Goal t v a b o l16 s20 s24 l24 l4 n t' v' a' b' o' l16' s20' s24' l24' l4' n' := by
  unfold Goal
  obtain ⟨ht, hv, ha, hb, ho, h16, h20, h24, hl24, hl4, hn, rt, rt', rv, rv', ra, ra'⟩ := D
  have qt : t' = t := ht.2 (by omega)
  have nv : v' ≠ v := fun e => hv.1 e (by omega)
  have qa : a' = a := ha.2 (by omega)
  have qb : b' = b := hb.2 (by omega)
  have qo : o' = o := ho.2 (by omega)
  have ql16 : l16' = l16 := h16.2 (by omega)
  have qs20 : s20' = s20 := h20.2 (by omega)
  have qs24 : s24' = s24 := h24.2 (by omega)
  have ql24 : l24' = l24 := hl24.2 (by omega)
  have ql4 : l4' = l4 := hl4.2 (by omega)
  have qn : n' = n := hn.2 (by omega)
  clear ht hv ha hb ho h16 h20 h24 hl24 hl4 hn hr hβ
  ( rcases flds_six t v a b o l16 s20 s24 l24 l4 n rt with ⟨c, e⟩ | ⟨c, e⟩ | ⟨c, e⟩ | ⟨c, e⟩ | ⟨c, e⟩ | ⟨c, e⟩ <;> rcases flds_six t' v' a' b' o' l16' s20' s24' l24' l4' n' rt' with ⟨c', e'⟩ | ⟨c', e'⟩ | ⟨c', e'⟩ | ⟨c', e'⟩ | ⟨c', e'⟩ | ⟨c', e'⟩ <;> rw [e, e'] at hf ⊢ <;> clear e e' <;> simp only at hf <;> first | (exfalso; omega) | (exfalso; simp at hf; done) | (exfalso; simp at hf; omega) | ( refine ⟨0, by decide, nine ?_ ?_ ?_ ?_ ?_ ?_ ?_ ?_ ?_⟩ <;> simp only [Ins.part, List.getD_cons_zero, List.getD_cons_succ, b01_ne] <;> first | omega | (simp; done) | (simp; omega)) | ( refine ⟨1, by decide, nine ?_ ?_ ?_ ?_ ?_ ?_ ?_ ?_ ?_⟩ <;> simp only [Ins.part, List.getD_cons_zero, List.getD_cons_succ, b01_ne] <;> first | omega | (simp; done) | (simp; omega)) | ( refine ⟨2, by decide, nine ?_ ?_ ?_ ?_ ?_ ?_ ?_ ?_ ?_⟩ <;> simp only [Ins.part, List.getD_cons_zero, List.getD_cons_succ, b01_ne] <;> first | omega | (simp; done) | (simp; omega)) | ( refine ⟨3, by decide, nine ?_ ?_ ?_ ?_ ?_ ?_ ?_ ?_ ?_⟩ <;> simp only [Ins.part, List.getD_cons_zero, List.getD_cons_succ, b01_ne] <;> first | omega | (simp; done) | (simp; omega)) | ( refine ⟨4, by decide, nine ?_ ?_ ?_ ?_ ?_ ?_ ?_ ?_ ?_⟩ <;> simp only [Ins.part, List.getD_cons_zero, List.getD_cons_succ, b01_ne] <;> first | omega | (simp; done) | (simp; omega)) | ( refine ⟨5, by decide, nine ?_ ?_ ?_ ?_ ?_ ?_ ?_ ?_ ?_⟩ <;> simp only [Ins.part, List.getD_cons_zero, List.getD_cons_succ, b01_ne] <;> first | omega | (simp; done) | (simp; omega)) | ( refine ⟨6, by decide, nine ?_ ?_ ?_ ?_ ?_ ?_ ?_ ?_ ?_⟩ <;> simp only [Ins.part, List.getD_cons_zero, List.getD_cons_succ, b01_ne] <;> first | omega | (simp; done) | (simp; omega)) | ( refine ⟨7, by decide, nine ?_ ?_ ?_ ?_ ?_ ?_ ?_ ?_ ?_⟩ <;> simp only [Ins.part, List.getD_cons_zero, List.getD_cons_succ, b01_ne] <;> first | omega | (simp; done) | (simp; omega)) | ( refine ⟨8, by decide, nine ?_ ?_ ?_ ?_ ?_ ?_ ?_ ?_ ?_⟩ <;> simp only [Ins.part, List.getD_cons_zero, List.getD_cons_succ, b01_ne] <;> first | omega | (simp; done) | (simp; omega)))

set_option maxHeartbeats 8000000 in
theorem core_2 (hβ : β < 32) (hr : 24 ≤ β ∧ β < 28) (D : Diff β t v a b o l16 s20 s24 l24 l4 n t' v' a' b' o' l16' s20' s24' l24' l4' n')
    (hf : (fldsF t v a b o l16 s20 s24 l24 l4 n).form = (fldsF t' v' a' b' o' l16' s20' s24' l24' l4' n').form) : Goal t v a b o l16 s20 s24 l24 l4 n t' v' a' b' o' l16' s20' s24' l24' l4' n' := by
  unfold Goal
  obtain ⟨ht, hv, ha, hb, ho, h16, h20, h24, hl24, hl4, hn, rt, rt', rv, rv', ra, ra'⟩ := D
  have qt : t' = t := ht.2 (by omega)
  have qv : v' = v := hv.2 (by omega)
  have na : a' ≠ a := fun e => ha.1 e (by omega)
  have qb : b' = b := hb.2 (by omega)
  have qo : o' = o := ho.2 (by omega)
  have ql16 : l16' = l16 := h16.2 (by omega)
  have qs20 : s20' = s20 := h20.2 (by omega)
  have qs24 : s24' = s24 := h24.2 (by omega)
  have ql24 : l24' = l24 := hl24.2 (by omega)
  have ql4 : l4' = l4 := hl4.2 (by omega)
  have qn : n' = n := hn.2 (by omega)
  clear ht hv ha hb ho h16 h20 h24 hl24 hl4 hn hr hβ
  ( rcases flds_six t v a b o l16 s20 s24 l24 l4 n rt with ⟨c, e⟩ | ⟨c, e⟩ | ⟨c, e⟩ | ⟨c, e⟩ | ⟨c, e⟩ | ⟨c, e⟩ <;> rcases flds_six t' v' a' b' o' l16' s20' s24' l24' l4' n' rt' with ⟨c', e'⟩ | ⟨c', e'⟩ | ⟨c', e'⟩ | ⟨c', e'⟩ | ⟨c', e'⟩ | ⟨c', e'⟩ <;> rw [e, e'] at hf ⊢ <;> clear e e' <;> simp only at hf <;> first | (exfalso; omega) | (exfalso; simp at hf; done) | (exfalso; simp at hf; omega) | ( refine ⟨0, by decide, nine ?_ ?_ ?_ ?_ ?_ ?_ ?_ ?_ ?_⟩ <;> simp only [Ins.part, List.getD_cons_zero, List.getD_cons_succ, b01_ne] <;> first | omega | (simp; done) | (simp; omega)) | ( refine ⟨1, by decide, nine ?_ ?_ ?_ ?_ ?_ ?_ ?_ ?_ ?_⟩ <;> simp only [Ins.part, List.getD_cons_zero, List.getD_cons_succ, b01_ne] <;> first | omega | (simp; done) | (simp; omega)) | ( refine ⟨2, by decide, nine ?_ ?_ ?_ ?_ ?_ ?_ ?_ ?_ ?_⟩ <;> simp only [Ins.part, List.getD_cons_zero, List.getD_cons_succ, b01_ne] <;> first | omega | (simp; done) | (simp; omega)) | ( refine ⟨3, by decide, nine ?_ ?_ ?_ ?_ ?_ ?_ ?_ ?_ ?_⟩ <;> simp only [Ins.part, List.getD_cons_zero, List.getD_cons_succ, b01_ne] <;> first | omega | (simp; done) | (simp; omega)) | ( refine ⟨4, by decide, nine ?_ ?_ ?_ ?_ ?_ ?_ ?_ ?_ ?_⟩ <;> simp only [Ins.part, List.getD_cons_zero, List.getD_cons_succ, b01_ne] <;> first | omega | (simp; done) | (simp; omega)) | ( refine ⟨5, by decide, nine ?_ ?_ ?_ ?_ ?_ ?_ ?_ ?_ ?_⟩ <;> simp only [Ins.part, List.getD_cons_zero, List.getD_cons_succ, b01_ne] <;> first | omega | (simp; done) | (simp; omega)) | ( refine ⟨6, by decide, nine ?_ ?_ ?_ ?_ ?_ ?_ ?_ ?_ ?_⟩ <;> simp only [Ins.part, List.getD_cons_zero, List.getD_cons_succ, b01_ne] <;> first | omega | (simp; done) | (simp; omega)) | ( refine ⟨7, by decide, nine ?_ ?_ ?_ ?_ ?_ ?_ ?_ ?_ ?_⟩ <;> simp only [Ins.part, List.getD_cons_zero, List.getD_cons_succ, b01_ne] <;> first | omega | (simp; done) | (simp; omega)) | ( refine ⟨8, by decide, nine ?_ ?_ ?_ ?_ ?_ ?_ ?_ ?_ ?_⟩ <;> simp only [Ins.part, List.getD_cons_zero, List.getD_cons_succ, b01_ne] <;> first | omega | (simp; done) | (simp; omega)))

set_option maxHeartbeats 8000000 in
theorem core_3 (hβ : β < 32) (hr : 20 ≤ β ∧ β < 24) (D : Diff β t v a b o l16 s20 s24 l24 l4 n t' v' a' b' o' l16' s20' s24' l24' l4' n')
    (hf : (fldsF t v a b o l16 s20 s24 l24 l4 n).form = (fldsF t' v' a' b' o' l16' s20' s24' l24' l4' n').form) : Goal t v a b o l16 s20 s24 l24 l4 n t' v' a' b' o' l16' s20' s24' l24' l4' n' := by
  unfold Goal
  obtain ⟨ht, hv, ha, hb, ho, h16, h20, h24, hl24, hl4, hn, rt, rt', rv, rv', ra, ra'⟩ := D
  have qt : t' = t := ht.2 (by omega)
  have qv : v' = v := hv.2 (by omega)
  have qa : a' = a := ha.2 (by omega)
  have nb : b' ≠ b := fun e => hb.1 e (by omega)
  have qo : o' = o := ho.2 (by omega)
  have ql16 : l16' = l16 := h16.2 (by omega)
  have qs20 : s20' = s20 := h20.2 (by omega)
  have ns24 : s24' ≠ s24 := fun e => h24.1 e (by omega)
  have nl24 : l24' ≠ l24 := fun e => hl24.1 e (by omega)
  have ql4 : l4' = l4 := hl4.2 (by omega)
  have nn : n' ≠ n := fun e => hn.1 e (by omega)
  clear ht hv ha hb ho h16 h20 h24 hl24 hl4 hn hr hβ
  ( rcases flds_six t v a b o l16 s20 s24 l24 l4 n rt with ⟨c, e⟩ | ⟨c, e⟩ | ⟨c, e⟩ | ⟨c, e⟩ | ⟨c, e⟩ | ⟨c, e⟩ <;> rcases flds_six t' v' a' b' o' l16' s20' s24' l24' l4' n' rt' with ⟨c', e'⟩ | ⟨c', e'⟩ | ⟨c', e'⟩ | ⟨c', e'⟩ | ⟨c', e'⟩ | ⟨c', e'⟩ <;> rw [e, e'] at hf ⊢ <;> clear e e' <;> simp only at hf <;> first | (exfalso; omega) | (exfalso; simp at hf; done) | (exfalso; simp at hf; omega) | ( refine ⟨0, by decide, nine ?_ ?_ ?_ ?_ ?_ ?_ ?_ ?_ ?_⟩ <;> simp only [Ins.part, List.getD_cons_zero, List.getD_cons_succ, b01_ne] <;> first | omega | (simp; done) | (simp; omega)) | ( refine ⟨1, by decide, nine ?_ ?_ ?_ ?_ ?_ ?_ ?_ ?_ ?_⟩ <;> simp only [Ins.part, List.getD_cons_zero, List.getD_cons_succ, b01_ne] <;> first | omega | (simp; done) | (simp; omega)) | ( refine ⟨2, by decide, nine ?_ ?_ ?_ ?_ ?_ ?_ ?_ ?_ ?_⟩ <;> simp only [Ins.part, List.getD_cons_zero, List.getD_cons_succ, b01_ne] <;> first | omega | (simp; done) | (simp; omega)) | ( refine ⟨3, by decide, nine ?_ ?_ ?_ ?_ ?_ ?_ ?_ ?_ ?_⟩ <;> simp only [Ins.part, List.getD_cons_zero, List.getD_cons_succ, b01_ne] <;> first | omega | (simp; done) | (simp; omega)) | ( refine ⟨4, by decide, nine ?_ ?_ ?_ ?_ ?_ ?_ ?_ ?_ ?_⟩ <;> simp only [Ins.part, List.getD_cons_zero, List.getD_cons_succ, b01_ne] <;> first | omega | (simp; done) | (simp; omega)) | ( refine ⟨5, by decide, nine ?_ ?_ ?_ ?_ ?_ ?_ ?_ ?_ ?_⟩ <;> simp only [Ins.part, List.getD_cons_zero, List.getD_cons_succ, b01_ne] <;> first | omega | (simp; done) | (simp; omega)) | ( refine ⟨6, by decide, nine ?_ ?_ ?_ ?_ ?_ ?_ ?_ ?_ ?_⟩ <;> simp only [Ins.part, List.getD_cons_zero, List.getD_cons_succ, b01_ne] <;> first | omega | (simp; done) | (simp; omega)) | ( refine ⟨7, by decide, nine ?_ ?_ ?_ ?_ ?_ ?_ ?_ ?_ ?_⟩ <;> simp only [Ins.part, List.getD_cons_zero, List.getD_cons_succ, b01_ne] <;> first | omega | (simp; done) | (simp; omega)) | ( refine ⟨8, by decide, nine ?_ ?_ ?_ ?_ ?_ ?_ ?_ ?_ ?_⟩ <;> simp only [Ins.part, List.getD_cons_zero, List.getD_cons_succ, b01_ne] <;> first | omega | (simp; done) | (simp; omega)))

set_option maxHeartbeats 8000000 in
theorem core_4 (hβ : β < 32) (hr : 16 ≤ β ∧ β < 20) (D : Diff β t v a b o l16 s20 s24 l24 l4 n t' v' a' b' o' l16' s20' s24' l24' l4' n')
    (hf : (fldsF t v a b o l16 s20 s24 l24 l4 n).form = (fldsF t' v' a' b' o' l16' s20' s24' l24' l4' n').form) : Goal t v a b o l16 s20 s24 l24 l4 n t' v' a' b' o' l16' s20' s24' l24' l4' n' := by
  unfold Goal
  obtain ⟨ht, hv, ha, hb, ho, h16, h20, h24, hl24, hl4, hn, rt, rt', rv, rv', ra, ra'⟩ := D
  have qt : t' = t := ht.2 (by omega)
  have qv : v' = v := hv.2 (by omega)
  have qa : a' = a := ha.2 (by omega)
  have qb : b' = b := hb.2 (by omega)
  have no : o' ≠ o := fun e => ho.1 e (by omega)
  have ql16 : l16' = l16 := h16.2 (by omega)
  have ns20 : s20' ≠ s20 := fun e => h20.1 e (by omega)
  have ns24 : s24' ≠ s24 := fun e => h24.1 e (by omega)
  have nl24 : l24' ≠ l24 := fun e => hl24.1 e (by omega)
  have ql4 : l4' = l4 := hl4.2 (by omega)
  have nn : n' ≠ n := fun e => hn.1 e (by omega)
  clear ht hv ha hb ho h16 h20 h24 hl24 hl4 hn hr hβ
  ( rcases flds_six t v a b o l16 s20 s24 l24 l4 n rt with ⟨c, e⟩ | ⟨c, e⟩ | ⟨c, e⟩ | ⟨c, e⟩ | ⟨c, e⟩ | ⟨c, e⟩ <;> rcases flds_six t' v' a' b' o' l16' s20' s24' l24' l4' n' rt' with ⟨c', e'⟩ | ⟨c', e'⟩ | ⟨c', e'⟩ | ⟨c', e'⟩ | ⟨c', e'⟩ | ⟨c', e'⟩ <;> rw [e, e'] at hf ⊢ <;> clear e e' <;> simp only at hf <;> first | (exfalso; omega) | (exfalso; simp at hf; done) | (exfalso; simp at hf; omega) | ( refine ⟨0, by decide, nine ?_ ?_ ?_ ?_ ?_ ?_ ?_ ?_ ?_⟩ <;> simp only [Ins.part, List.getD_cons_zero, List.getD_cons_succ, b01_ne] <;> first | omega | (simp; done) | (simp; omega)) | ( refine ⟨1, by decide, nine ?_ ?_ ?_ ?_ ?_ ?_ ?_ ?_ ?_⟩ <;> simp only [Ins.part, List.getD_cons_zero, List.getD_cons_succ, b01_ne] <;> first | omega | (simp; done) | (simp; omega)) | ( refine ⟨2, by decide, nine ?_ ?_ ?_ ?_ ?_ ?_ ?_ ?_ ?_⟩ <;> simp only [Ins.part, List.getD_cons_zero, List.getD_cons_succ, b01_ne] <;> first | omega | (simp; done) | (simp; omega)) | ( refine ⟨3, by decide, nine ?_ ?_ ?_ ?_ ?_ ?_ ?_ ?_ ?_⟩ <;> simp only [Ins.part, List.getD_cons_zero, List.getD_cons_succ, b01_ne] <;> first | omega | (simp; done) | (simp; omega)) | ( refine ⟨4, by decide, nine ?_ ?_ ?_ ?_ ?_ ?_ ?_ ?_ ?_⟩ <;> simp only [Ins.part, List.getD_cons_zero, List.getD_cons_succ, b01_ne] <;> first | omega | (simp; done) | (simp; omega)) | ( refine ⟨5, by decide, nine ?_ ?_ ?_ ?_ ?_ ?_ ?_ ?_ ?_⟩ <;> simp only [Ins.part, List.getD_cons_zero, List.getD_cons_succ, b01_ne] <;> first | omega | (simp; done) | (simp; omega)) | ( refine ⟨6, by decide, nine ?_ ?_ ?_ ?_ ?_ ?_ ?_ ?_ ?_⟩ <;> simp only [Ins.part, List.getD_cons_zero, List.getD_cons_succ, b01_ne] <;> first | omega | (simp; done) | (simp; omega)) | ( refine ⟨7, by decide, nine ?_ ?_ ?_ ?_ ?_ ?_ ?_ ?_ ?_⟩ <;> simp only [Ins.part, List.getD_cons_zero, List.getD_cons_succ, b01_ne] <;> first | omega | (simp; done) | (simp; omega)) | ( refine ⟨8, by decide, nine ?_ ?_ ?_ ?_ ?_ ?_ ?_ ?_ ?_⟩ <;> simp only [Ins.part, List.getD_cons_zero, List.getD_cons_succ, b01_ne] <;> first | omega | (simp; done) | (simp; omega)))

set_option maxHeartbeats 8000000 in
theorem core_5 (hβ : β < 32) (hr : 4 ≤ β ∧ β < 16) (D : Diff β t v a b o l16 s20 s24 l24 l4 n t' v' a' b' o' l16' s20' s24' l24' l4' n')
    (hf : (fldsF t v a b o l16 s20 s24 l24 l4 n).form = (fldsF t' v' a' b' o' l16' s20' s24' l24' l4' n').form) : Goal t v a b o l16 s20 s24 l24 l4 n t' v' a' b' o' l16' s20' s24' l24' l4' n' := by
  unfold Goal
  obtain ⟨ht, hv, ha, hb, ho, h16, h20, h24, hl24, hl4, hn, rt, rt', rv, rv', ra, ra'⟩ := D
  have qt : t' = t := ht.2 (by omega)
  have qv : v' = v := hv.2 (by omega)
  have qa : a' = a := ha.2 (by omega)
  have qb : b' = b := hb.2 (by omega)
  have qo : o' = o := ho.2 (by omega)
  have nl16 : l16' ≠ l16 := fun e => h16.1 e (by omega)
  have ns20 : s20' ≠ s20 := fun e => h20.1 e (by omega)
  have ns24 : s24' ≠ s24 := fun e => h24.1 e (by omega)
  have nl24 : l24' ≠ l24 := fun e => hl24.1 e (by omega)
  have ql4 : l4' = l4 := hl4.2 (by omega)
  have nn : n' ≠ n := fun e => hn.1 e (by omega)
  clear ht hv ha hb ho h16 h20 h24 hl24 hl4 hn hr hβ
  ( rcases flds_six t v a b o l16 s20 s24 l24 l4 n rt with ⟨c, e⟩ | ⟨c, e⟩ | ⟨c, e⟩ | ⟨c, e⟩ | ⟨c, e⟩ | ⟨c, e⟩ <;> rcases flds_six t' v' a' b' o' l16' s20' s24' l24' l4' n' rt' with ⟨c', e'⟩ | ⟨c', e'⟩ | ⟨c', e'⟩ | ⟨c', e'⟩ | ⟨c', e'⟩ | ⟨c', e'⟩ <;> rw [e, e'] at hf ⊢ <;> clear e e' <;> simp only at hf <;> first | (exfalso; omega) | (exfalso; simp at hf; done) | (exfalso; simp at hf; omega) | ( refine ⟨0, by decide, nine ?_ ?_ ?_ ?_ ?_ ?_ ?_ ?_ ?_⟩ <;> simp only [Ins.part, List.getD_cons_zero, List.getD_cons_succ, b01_ne] <;> first | omega | (simp; done) | (simp; omega)) | ( refine ⟨1, by decide, nine ?_ ?_ ?_ ?_ ?_ ?_ ?_ ?_ ?_⟩ <;> simp only [Ins.part, List.getD_cons_zero, List.getD_cons_succ, b01_ne] <;> first | omega | (simp; done) | (simp; omega)) | ( refine ⟨2, by decide, nine ?_ ?_ ?_ ?_ ?_ ?_ ?_ ?_ ?_⟩ <;> simp only [Ins.part, List.getD_cons_zero, List.getD_cons_succ, b01_ne] <;> first | omega | (simp; done) | (simp; omega)) | ( refine ⟨3, by decide, nine ?_ ?_ ?_ ?_ ?_ ?_ ?_ ?_ ?_⟩ <;> simp only [Ins.part, List.getD_cons_zero, List.getD_cons_succ, b01_ne] <;> first | omega | (simp; done) | (simp; omega)) | ( refine ⟨4, by decide, nine ?_ ?_ ?_ ?_ ?_ ?_ ?_ ?_ ?_⟩ <;> simp only [Ins.part, List.getD_cons_zero, List.getD_cons_succ, b01_ne] <;> first | omega | (simp; done) | (simp; omega)) | ( refine ⟨5, by decide, nine ?_ ?_ ?_ ?_ ?_ ?_ ?_ ?_ ?_⟩ <;> simp only [Ins.part, List.getD_cons_zero, List.getD_cons_succ, b01_ne] <;> first | omega | (simp; done) | (simp; omega)) | ( refine ⟨6, by decide, nine ?_ ?_ ?_ ?_ ?_ ?_ ?_ ?_ ?_⟩ <;> simp only [Ins.part, List.getD_cons_zero, List.getD_cons_succ, b01_ne] <;> first | omega | (simp; done) | (simp; omega)) | ( refine ⟨7, by decide, nine ?_ ?_ ?_ ?_ ?_ ?_ ?_ ?_ ?_⟩ <;> simp only [Ins.part, List.getD_cons_zero, List.getD_cons_succ, b01_ne] <;> first | omega | (simp; done) | (simp; omega)) | ( refine ⟨8, by decide, nine ?_ ?_ ?_ ?_ ?_ ?_ ?_ ?_ ?_⟩ <;> simp only [Ins.part, List.getD_cons_zero, List.getD_cons_succ, b01_ne] <;> first | omega | (simp; done) | (simp; omega)))

set_option maxHeartbeats 8000000 in
theorem core_6 (hβ : β < 32) (hr : β < 4) (D : Diff β t v a b o l16 s20 s24 l24 l4 n t' v' a' b' o' l16' s20' s24' l24' l4' n')
    (hf : (fldsF t v a b o l16 s20 s24 l24 l4 n).form = (fldsF t' v' a' b' o' l16' s20' s24' l24' l4' n').form) : Goal t v a b o l16 s20 s24 l24 l4 n t' v' a' b' o' l16' s20' s24' l24' l4' n' := by
  unfold Goal
  obtain ⟨ht, hv, ha, hb, ho, h16, h20, h24, hl24, hl4, hn, rt, rt', rv, rv', ra, ra'⟩ := D
  have qt : t' = t := ht.2 (by omega)
  have qv : v' = v := hv.2 (by omega)
  have qa : a' = a := ha.2 (by omega)
  have qb : b' = b := hb.2 (by omega)
  have qo : o' = o := ho.2 (by omega)
  have nl16 : l16' ≠ l16 := fun e => h16.1 e (by omega)
  have ns20 : s20' ≠ s20 := fun e => h20.1 e (by omega)
  have ns24 : s24' ≠ s24 := fun e => h24.1 e (by omega)
  have nl24 : l24' ≠ l24 := fun e => hl24.1 e (by omega)
  have nl4 : l4' ≠ l4 := fun e => hl4.1 e (by omega)
  have qn : n' = n := hn.2 (by omega)
  clear ht hv ha hb ho h16 h20 h24 hl24 hl4 hn hr hβ
  ( rcases flds_six t v a b o l16 s20 s24 l24 l4 n rt with ⟨c, e⟩ | ⟨c, e⟩ | ⟨c, e⟩ | ⟨c, e⟩ | ⟨c, e⟩ | ⟨c, e⟩ <;> rcases flds_six t' v' a' b' o' l16' s20' s24' l24' l4' n' rt' with ⟨c', e'⟩ | ⟨c', e'⟩ | ⟨c', e'⟩ | ⟨c', e'⟩ | ⟨c', e'⟩ | ⟨c', e'⟩ <;> rw [e, e'] at hf ⊢ <;> clear e e' <;> simp only at hf <;> first | (exfalso; omega) | (exfalso; simp at hf; done) | (exfalso; simp at hf; omega) | ( refine ⟨0, by decide, nine ?_ ?_ ?_ ?_ ?_ ?_ ?_ ?_ ?_⟩ <;> simp only [Ins.part, List.getD_cons_zero, List.getD_cons_succ, b01_ne] <;> first | omega | (simp; done) | (simp; omega)) | ( refine ⟨1, by decide, nine ?_ ?_ ?_ ?_ ?_ ?_ ?_ ?_ ?_⟩ <;> simp only [Ins.part, List.getD_cons_zero, List.getD_cons_succ, b01_ne] <;> first | omega | (simp; done) | (simp; omega)) | ( refine ⟨2, by decide, nine ?_ ?_ ?_ ?_ ?_ ?_ ?_ ?_ ?_⟩ <;> simp only [Ins.part, List.getD_cons_zero, List.getD_cons_succ, b01_ne] <;> first | omega | (simp; done) | (simp; omega)) | ( refine ⟨3, by decide, nine ?_ ?_ ?_ ?_ ?_ ?_ ?_ ?_ ?_⟩ <;> simp only [Ins.part, List.getD_cons_zero, List.getD_cons_succ, b01_ne] <;> first | omega | (simp; done) | (simp; omega)) | ( refine ⟨4, by decide, nine ?_ ?_ ?_ ?_ ?_ ?_ ?_ ?_ ?_⟩ <;> simp only [Ins.part, List.getD_cons_zero, List.getD_cons_succ, b01_ne] <;> first | omega | (simp; done) | (simp; omega)) | ( refine ⟨5, by decide, nine ?_ ?_ ?_ ?_ ?_ ?_ ?_ ?_ ?_⟩ <;> simp only [Ins.part, List.getD_cons_zero, List.getD_cons_succ, b01_ne] <;> first | omega | (simp; done) | (simp; omega)) | ( refine ⟨6, by decide, nine ?_ ?_ ?_ ?_ ?_ ?_ ?_ ?_ ?_⟩ <;> simp only [Ins.part, List.getD_cons_zero, List.getD_cons_succ, b01_ne] <;> first | omega | (simp; done) | (simp; omega)) | ( refine ⟨7, by decide, nine ?_ ?_ ?_ ?_ ?_ ?_ ?_ ?_ ?_⟩ <;> simp only [Ins.part, List.getD_cons_zero, List.getD_cons_succ, b01_ne] <;> first | omega | (simp; done) | (simp; omega)) | ( refine ⟨8, by decide, nine ?_ ?_ ?_ ?_ ?_ ?_ ?_ ?_ ?_⟩ <;> simp only [Ins.part, List.getD_cons_zero, List.getD_cons_succ, b01_ne] <;> first | omega | (simp; done) | (simp; omega)))

theorem parts_core (hβ : β < 32) (D : Diff β t v a b o l16 s20 s24 l24 l4 n t' v' a' b' o' l16' s20' s24' l24' l4' n')
    (hf : (fldsF t v a b o l16 s20 s24 l24 l4 n).form = (fldsF t' v' a' b' o' l16' s20' s24' l24' l4' n').form) : Goal t v a b o l16 s20 s24 l24 l4 n t' v' a' b' o' l16' s20' s24' l24' l4' n' := by
  by_cases h0 : 29 ≤ β
  · exact core_0 hβ h0 D hf
  by_cases h1 : 28 ≤ β
  · exact core_1 hβ (by omega) D hf
  by_cases h2 : 24 ≤ β
  · exact core_2 hβ (by omega) D hf
  by_cases h3 : 20 ≤ β
  · exact core_3 hβ (by omega) D hf
  by_cases h4 : 16 ≤ β
  · exact core_4 hβ (by omega) D hf
  by_cases h5 : 4 ≤ β
  · exact core_5 hβ (by omega) D hf
  exact core_6 hβ (by omega) D hf
end

end Go.Proofs.YtmnmbpenonodiaaDoor
