/- Plain: of seven candidates the one whose word it is. Contracts of the reference: bits, signed, Value, both; what the walks of Do share. -/
import Derived.Test.YtkeaogphaifnmaaRiscPlain
import Derived.Test.YtkeaogphaifnmaaRiscNum
import Derived.Laws.BitsAllLaws
import Derived.Test.YtkeaogphaifnmaaRefRisc
namespace Go.Proofs.Ytkeaogphaifnmaa
set_option linter.unusedVariables false
set_option linter.unusedSimpArgs false
open Go.RowKit

/-- the seven that a word could be. -/
def cand (x : Int) : Nat → Ins
  | 0 => ⟨0, decide (x / 536870912 % 2 = 1), false, x / 16777216 % 16, x / 1048576 % 16, x % 16, x / 65536 % 16, 0, 0, 0, 0⟩
  | 1 => ⟨1, decide (x / 536870912 % 2 = 1), decide (x / 268435456 % 2 = 1), x / 16777216 % 16, x / 1048576 % 16, 0, x / 65536 % 16, x % 65536, 0, 0, 0⟩
  | 2 => ⟨2, false, decide (x / 268435456 % 2 = 1), x / 16777216 % 16, x / 1048576 % 16, 0, 0, 0, W.sg (W.ext x 20), 0, 0⟩
  | 3 => ⟨3, false, decide (x / 268435456 % 2 = 1), x / 16777216 % 16, x / 1048576 % 16, 0, 0, 0, W.sg (W.ext x 20), 0, 0⟩
  | 4 => ⟨4, false, decide (x / 268435456 % 2 = 1), 0, 0, 0, 0, 0, W.sg (W.ext x 24), x / 16777216 % 16, 0⟩
  | 5 => ⟨5, false, decide (x / 268435456 % 2 = 1), 0, 0, x % 16, 0, 0, 0, x / 16777216 % 16, 0⟩
  | _ => ⟨6, false, false, 0, 0, 0, 0, 0, 0, x / 16777216 % 16, x / 16 % 256⟩

theorem cand_form (x : Int) (k : Nat) (h : k ≤ 6) : (cand x k).form = k := by
  match k, h with
  | 0, _ | 1, _ | 2, _ | 3, _ | 4, _ | 5, _ | 6, _ => rfl
  | k + 7, h => exact absurd h (by omega)

theorem ext20_is {x : Int} : W.sg (W.ext x 20) = if 524288 ≤ x % 1048576 then x % 1048576 - 1048576 else x % 1048576 := by
  unfold W.ext
  simp only [Int.reducePow, Nat.reduceSub]
  split <;> exact W.wd_sg (by omega) (by omega)
theorem ext24_is {x : Int} : W.sg (W.ext x 24) = if 8388608 ≤ x % 16777216 then x % 16777216 - 16777216 else x % 16777216 := by
  unfold W.ext
  simp only [Int.reducePow, Nat.reduceSub]
  split <;> exact W.wd_sg (by omega) (by omega)
theorem ext20_bd (x : Int) : -524288 ≤ W.sg (W.ext x 20) ∧ W.sg (W.ext x 20) ≤ 524287 ∧ W.sg (W.ext x 20) % 1048576 = x % 1048576 := by
  rw [ext20_is]; split <;> omega
theorem ext24_bd (x : Int) : -8388608 ≤ W.sg (W.ext x 24) ∧ W.sg (W.ext x 24) ≤ 8388607 ∧ W.sg (W.ext x 24) % 16777216 = x % 16777216 := by
  rw [ext24_is]; split <;> omega

theorem b01_dec (p : Prop) [Decidable p] : b01 (decide p) = if p then 1 else 0 := by
  by_cases h : p <;> simp [b01, h]

/-- a word that is an instruction is that one's word. -/
theorem of_word {x : Int} (hx : 0 ≤ x ∧ x < 4294967296) (hg : good (flds x) = true) : (flds x).May ∧ wordR (flds x) = x := by
  have e20 := ext20_bd x
  have e24 := ext24_bd x
  by_cases h1 : x / 536870912 ≤ 1
  · have hf : flds x = ⟨0, decide (x / 536870912 = 1), decide (x / 268435456 % 2 = 1), x / 16777216 % 16, x / 1048576 % 16, x % 65536, x / 65536 % 16, 0, 0, 0, 0⟩ := by unfold flds; rw [if_pos h1]
    rw [hf] at hg ⊢
    simp [good, mayOp] at hg
    obtain ⟨⟨⟨hv, hc⟩, ho⟩, hm⟩ := hg
    clear e20 e24 hf
    constructor
    · constructor <;> simp only [] <;> first | omega | (intro h; omega) | (intros; simp; done) | (intros; simp; omega) | skip
      · intro _ hu
        (try simp at hu)
        split at hm
        · omega
        · (try simp at hm) ; omega
      · intro _ h0
        rw [if_pos h0] at hm
        (try simp at hm)
        refine ⟨hm.1, fun hu => .inr ⟨trivial, ?_⟩⟩
        simp at hu
        omega
    · simp only [wordR, fld, b01_dec]
      simp
      split <;> omega
  · by_cases h2 : x / 536870912 ≤ 3
    · have hf : flds x = ⟨1, decide (x / 536870912 = 3), decide (x / 268435456 % 2 = 1), x / 16777216 % 16, x / 1048576 % 16, 0, x / 65536 % 16, x % 65536, 0, 0, 0⟩ := by unfold flds; rw [if_neg h1, if_pos h2]
      rw [hf] at hg ⊢
      simp [good, mayOp] at hg
      obtain ⟨ho, hm⟩ := hg
      clear e20 e24 hf
      constructor
      · constructor <;> simp only [] <;> first | omega | (intro h; omega) | (intros; simp; done) | (intros; simp; omega) | skip
        · intro _ hu
          (try simp at hu)
          split at hm
          · omega
          · (try simp at hm) ; omega
        · intro _ h0
          rw [if_pos h0] at hm
          (try simp at hm)
          refine ⟨hm.1, fun hu => .inl ⟨trivial, ?_⟩⟩
          simp at hu ⊢
          omega
      · simp only [wordR, fld, b01_dec]
        simp
        (repeat' split) <;> omega
    · by_cases h3 : x / 536870912 ≤ 5
      · have hf : flds x = ⟨x / 536870912 - 2, false, decide (x / 268435456 % 2 = 1), x / 16777216 % 16, x / 1048576 % 16, 0, 0, 0, W.sg (W.ext x 20), 0, 0⟩ := by unfold flds; rw [if_neg h1, if_neg h2, if_pos h3]
        rw [hf]
        generalize W.sg (W.ext x 20) = f at e20 ⊢
        constructor
        · constructor <;> simp only [] <;> first | omega | (intro h; omega) | (intros; simp; done) | (intros; simp; omega) | skip
        · rcases (by omega : x / 536870912 = 4 ∨ x / 536870912 = 5) with h | h
          · simp only [wordR, fld, b01_dec, h]
            simp
            (repeat' split) <;> omega
          · simp only [wordR, fld, b01_dec, h]
            simp
            (repeat' split) <;> omega
      · by_cases h4 : x / 536870912 = 7
        · have hf : flds x = ⟨4, false, decide (x / 268435456 % 2 = 1), 0, 0, 0, 0, 0, W.sg (W.ext x 24), x / 16777216 % 16, 0⟩ := by unfold flds; rw [if_neg h1, if_neg h2, if_neg h3, if_pos h4]
          rw [hf]
          generalize W.sg (W.ext x 24) = f at e24 ⊢
          constructor
          · constructor <;> simp only [] <;> first | omega | (intro h; omega) | (intros; simp; done) | (intros; simp; omega) | skip
          · simp only [wordR, fld, b01_dec]
            simp
            (repeat' split) <;> omega
        · by_cases h5 : x / 268435456 % 2 = 1 ∧ x % 16 = 12
          · have hf : flds x = ⟨6, false, false, 0, 0, 0, 0, 0, 0, x / 16777216 % 16, x / 16 % 1048576⟩ := by unfold flds; rw [if_neg h1, if_neg h2, if_neg h3, if_neg h4, if_pos h5]
            rw [hf] at hg ⊢
            simp [good] at hg
            constructor
            · constructor <;> simp only [] <;> first | omega | (intro h; omega) | (intros; simp; done) | (intros; simp; omega) | skip
            · simp only [wordR, fld, b01_dec]
              simp
              (repeat' split) <;> omega
          · have hf : flds x = ⟨5, false, decide (x / 268435456 % 2 = 1), 0, 0, x % 16777216, 0, 0, 0, x / 16777216 % 16, 0⟩ := by unfold flds; rw [if_neg h1, if_neg h2, if_neg h3, if_neg h4, if_neg h5]
            rw [hf] at hg ⊢
            simp [good] at hg
            constructor
            · constructor <;> simp only [] <;> first | omega | (intro h; omega) | (intros; simp; done) | (intros; simp; omega) | skip
            · simp only [wordR, fld, b01_dec]
              simp
              (repeat' split) <;> omega

theorem cand_is {x : Int} (hx : 0 ≤ x ∧ x < 4294967296) (hg : good (flds x) = true) {k : Nat} (hk : (flds x).form = k) : cand x k = flds x := by
  have hb := (flds_bd hx).1
  have hk6 : k ≤ 6 := by omega
  unfold flds at *
  split at hg
  · rename_i h; rw [if_pos h] at hk ⊢; simp only [] at hk
    obtain rfl : k = 0 := by omega
    simp [good] at hg
    apply Ins.ext' <;> simp only [cand] <;> first | rfl | omega | (simp; omega)
  · rename_i h1; rw [if_neg h1] at hk ⊢
    split at hg
    · rename_i h; rw [if_pos h] at hk ⊢; simp only [] at hk
      obtain rfl : k = 1 := by omega
      apply Ins.ext' <;> simp only [cand] <;> first | rfl | omega | (simp; omega)
    · rename_i h2; rw [if_neg h2] at hk ⊢
      split at hg
      · rename_i h; rw [if_pos h] at hk ⊢; simp only [] at hk
        rcases (by omega : k = 2 ∨ k = 3) with rfl | rfl <;> (apply Ins.ext' <;> simp only [cand] <;> first | rfl | omega | (simp; omega))
      · rename_i h3; rw [if_neg h3] at hk ⊢
        split at hg
        · rename_i h; rw [if_pos h] at hk ⊢; simp only [] at hk
          obtain rfl : k = 4 := by omega
          apply Ins.ext' <;> simp only [cand] <;> first | rfl | omega | (simp; omega)
        · rename_i h4; rw [if_neg h4] at hk ⊢
          split at hg
          · rename_i h; rw [if_pos h] at hk ⊢; simp only [] at hk
            obtain rfl : k = 6 := by omega
            simp [good] at hg
            apply Ins.ext' <;> simp only [cand] <;> first | rfl | omega | (simp; omega)
          · rename_i h; rw [if_neg h] at hk ⊢; simp only [] at hk
            obtain rfl : k = 5 := by omega
            simp [good] at hg
            apply Ins.ext' <;> simp only [cand] <;> first | rfl | omega | (simp; omega)

theorem cand_yes {x : Int} (hx : 0 ≤ x ∧ x < 4294967296) (hg : good (flds x) = true) {k : Nat} (hk : (flds x).form = k) : (cand x k).May ∧ wordR (cand x k) = x := by
  rw [cand_is hx hg hk]; exact of_word hx hg
theorem cand_no {x : Int} {k : Nat} (hk : k ≤ 6) (h : (cand x k).May) (hw : wordR (cand x k) = x) : good (flds x) = true ∧ (flds x).form = k := by
  obtain ⟨_, h2, h3⟩ := word_of h
  rw [hw] at h2
  rw [h2]
  exact ⟨h3, cand_form x k hk⟩

set_option maxHeartbeats 2000000 in
theorem bits_ref (x f s : Int) (w : World) (hx : 0 ≤ x ∧ x < 4294967296) {f' s' : Nat} (h : (f, s, f', s') = (29, 1, 29, 1) ∨ (f, s, f', s') = (28, 1, 28, 1) ∨ (f, s, f', s') = (24, 4, 24, 4) ∨ (f, s, f', s') = (20, 4, 20, 4) ∨ (f, s, f', s') = (16, 4, 16, 4) ∨ (f, s, f', s') = (0, 20, 0, 20) ∨ (f, s, f', s') = (0, 4, 0, 4) ∨ (f, s, f', s') = (0, 16, 0, 16) ∨ (f, s, f', s') = (0, 24, 0, 24) ∨ (f, s, f', s') = (4, 8, 4, 8)) :
    Calls Try.prog 48 #[.int .u32 x, .int .i64 f, .int .i64 s] w fun e w' => e = .returned (.int .i64 (x / 2 ^ f' % 2 ^ s')) ∧ w = w' := by
  rcases h with h | h | h | h | h | h | h | h | h | h
  all_goals
    (simp only [Prod.mk.injEq] at h
     obtain ⟨rfl, rfl, rfl, rfl⟩ := h
     go_enter Try.func48, Try.ntmps48
     go_wp2
     go_ret
     refine ⟨ret_int ?_, rfl⟩
     first | (simp only [Int.reducePow]; done) | (simp only [Int.reducePow]; omega) | (simp only [Int.reducePow]; unfold wrap64; omega))

theorem signed20_ref (n : Int) (w : World) (hn : 0 ≤ n ∧ n < 1048576) :
    Calls Try.prog 49 #[.int .i64 n, .int .i64 20] w fun e w' => e = .returned (.int .i64 (if 524288 ≤ n then n - 1048576 else n)) ∧ w = w' := by
  by_cases h : 524288 ≤ n
  all_goals
    (go_enter Try.func49, Try.ntmps49
     go_wp2
     go_ret
     refine ⟨ret_int ?_, rfl⟩
     first | (split <;> omega) | omega)
theorem signed24_ref (n : Int) (w : World) (hn : 0 ≤ n ∧ n < 16777216) :
    Calls Try.prog 49 #[.int .i64 n, .int .i64 24] w fun e w' => e = .returned (.int .i64 (if 8388608 ≤ n then n - 16777216 else n)) ∧ w = w' := by
  by_cases h : 8388608 ≤ n
  all_goals
    (go_enter Try.func49, Try.ntmps49
     go_wp2
     go_ret
     refine ⟨ret_int ?_, rfl⟩
     first | (split <;> omega) | omega)

set_option maxHeartbeats 1000000 in
theorem refvalue_walk (i : Ins) (w : World) (him : 0 ≤ i.im ∧ i.im < 65536) : Calls Try.prog 50 #[i.val] w fun e w' => e = .returned (.int .u32 i.value) ∧ Below w.heap.size w w' := by
  obtain ⟨form, u, v, a, b, c, op, im, off, cond, n⟩ := i
  simp only [] at him
  by_cases hf : form = 1
  · subst hf
    by_cases ho : op = 0
    · subst ho
      cases u <;> cases v
      all_goals
        (go_enter Try.func50, Try.ntmps50
         go_wp2
         go_ret
         refine ⟨ret_int ?_, (Below.refl _ _).alloc (Nat.le_refl _) _⟩
         first | (simp [Ins.value, wrap64]; done) | (simp [Ins.value, wrap64]; omega))
    · cases u <;> cases v
      all_goals
        (go_enter Try.func50, Try.ntmps50
         go_wp2
         go_ret
         refine ⟨ret_int ?_, (Below.refl _ _).alloc (Nat.le_refl _) _⟩
         first | (simp [Ins.value, ho, wrap64]; done) | (simp [Ins.value, ho, wrap64]; omega))
  · go_enter Try.func50, Try.ntmps50
    go_wp2
    go_ret
    exact ⟨ret_int (by simp [Ins.value, hf]), (Below.refl _ _).alloc (Nat.le_refl _) _⟩

def gb (how : Nat) (x y : Bool) : Bool := if how = 0 then x && y else if how = 1 then x && !y else if how = 2 then x || y else x != y

theorem bit_odd (a k : Nat) : a.testBit k = decide (a / 2 ^ k % 2 = 1) := by
  rw [Nat.testBit_eq_decide_div_mod_eq]
theorem mod_next (f k : Nat) : f % 2 ^ (k + 1) = f % 2 ^ k + (if f.testBit k then 2 ^ k else 0) := by
  rw [Nat.mod_pow_succ, bit_odd]
  have := Nat.mod_lt (f / 2 ^ k) (show 0 < 2 by decide)
  by_cases h : f / 2 ^ k % 2 = 1
  · rw [h]; simp
  · rw [show f / 2 ^ k % 2 = 0 by omega]; simp

/-- what the loop holds behind k rounds. -/
structure BothAt (how a b f k p q z t : Nat) : Prop where
  p : p = a / 2 ^ k
  q : q = b / 2 ^ k
  z : z = f % 2 ^ k
  t : t = 2 ^ k % 4294967296

theorem BothAt.next {how a b f k p q z t : Nat} (h : BothAt how a b f k p q z t) (hk : k < 32) (hf : ∀ k, k < 32 → f.testBit k = gb how (a.testBit k) (b.testBit k)) :
    BothAt how a b f (k + 1) (p / 2) (q / 2) (z + (if gb how (decide (p % 2 = 1)) (decide (q % 2 = 1)) then t else 0)) (t * 2 % 4294967296) := by
  obtain ⟨rfl, rfl, rfl, rfl⟩ := h
  have ht : 2 ^ k % 4294967296 = 2 ^ k := Nat.mod_eq_of_lt (by exact Nat.lt_of_lt_of_le (Nat.pow_lt_pow_right (by decide) hk) (by decide))
  refine ⟨by rw [Nat.div_div_eq_div_mul, Nat.pow_succ], by rw [Nat.div_div_eq_div_mul, Nat.pow_succ], ?_, ?_⟩
  · rw [mod_next, hf k hk, bit_odd a, bit_odd b, ht]
  · rw [ht, Nat.pow_succ]
theorem BothAt.bd {how a b f k p q z t : Nat} (h : BothAt how a b f k p q z t) (hk : k < 32) (ha : a < 4294967296) (hb : b < 4294967296) : p < 4294967296 ∧ q < 4294967296 ∧ t ≤ 2147483648 ∧ z + t < 4294967296 := by
  obtain ⟨rfl, rfl, rfl, rfl⟩ := h
  have h1 : 2 ^ k ≤ 2 ^ 31 := Nat.pow_le_pow_right (by decide) (by omega)
  have ht : 2 ^ k % 4294967296 = 2 ^ k := Nat.mod_eq_of_lt (by omega)
  have h2 : f % 2 ^ k < 2 ^ k := Nat.mod_lt _ (Nat.two_pow_pos k)
  rw [ht]
  refine ⟨Nat.lt_of_le_of_lt (Nat.div_le_self _ _) ha, Nat.lt_of_le_of_lt (Nat.div_le_self _ _) hb, by omega, by omega⟩
theorem BothAt.done {how a b f p q z t : Nat} (h : BothAt how a b f 32 p q z t) (hf : f < 4294967296) : z = f := by
  obtain ⟨rfl, rfl, rfl, rfl⟩ := h
  exact Nat.mod_eq_of_lt hf

set_option maxRecDepth 20000 in
set_option maxHeartbeats 8000000 in
theorem both_walk (how : Nat) (hh : how ≤ 3) (a b f : Nat) (w : World) (ha : a < 4294967296) (hb : b < 4294967296) (hfl : f < 4294967296) (hf : ∀ k, k < 32 → f.testBit k = gb how (a.testBit k) (b.testBit k)) :
    Calls Try.prog 54 #[.int .u32 a, .int .u32 b, .int .i64 how] w fun e w' => e = .returned (.int .u32 f) ∧ w' = w := by
  have HF := Lib.hid hf
  have HA := Lib.hid ha
  have HB := Lib.hid hb
  have H0 := Lib.hid (show BothAt how a b f 0 a b 0 1 from ⟨by simp, by simp, by simp [Nat.mod_one], by simp⟩)
  have hd : how = 0 ∨ how = 1 ∨ how = 2 ∨ how = 3 := by omega
  clear hf ha hb hh
  rcases hd with rfl | rfl | rfl | rfl
  all_goals
    go_enter Try.func54, Try.ntmps54
    go_wp2
    go_loopw [0, 1, 7, 8, 9] (fun va vb vz vt vi wr => ∃ k p q z t : Nat, k ≤ 32 ∧ vi = .int .i64 k ∧ va = .int .u32 p ∧ vb = .int .u32 q ∧ vz = .int .u32 z ∧ vt = .int .u32 t ∧ BothAt _ a b f k p q z t ∧ wr = w) (fun _ _ _ _ i _ => 32 - (intOf i).toNat)
    case atStart => exact ⟨0, a, b, 0, 1, by decide, rfl, rfl, rfl, rfl, rfl, H0.out, rfl⟩
    case round =>
      obtain ⟨k, p, q, z, t, hk, rfl, rfl, rfl, rfl, rfl, hB, rfl⟩ := hrel
      have HBt := Lib.hid hB
      clear hB
      by_cases hlt : k < 32
      · obtain ⟨b1, b2, b3, b4⟩ := HBt.out.bd hlt HA.out HB.out
        have HN := Lib.hid (HBt.out.next hlt HF.out)
        have HBD := Lib.hid (show (p < 4294967296 ∧ q < 4294967296 ∧ t ≤ 2147483648 ∧ z + t < 4294967296) from ⟨b1, b2, b3, b4⟩)
        clear b1 b2 b3 b4
        obtain ⟨P, hP⟩ : ∃ P : Int, P = p := ⟨_, rfl⟩
        obtain ⟨Q, hQ⟩ : ∃ Q : Int, Q = q := ⟨_, rfl⟩
        obtain ⟨Z, hZ⟩ : ∃ Z : Int, Z = z := ⟨_, rfl⟩
        obtain ⟨T, hT⟩ : ∃ T : Int, T = t := ⟨_, rfl⟩
        rw [← hP, ← hQ, ← hZ, ← hT]
        have n1 : P < 4294967296 := by have := HBD.out; omega
        have n2 : Q < 4294967296 := by have := HBD.out; omega
        have n3 : Z + T < 4294967296 := by have := HBD.out; omega
        have n4 : T ≤ 2147483648 := by have := HBD.out; omega
        have m1 : 0 ≤ P := by omega
        have m2 : 0 ≤ Q := by omega
        have m3 : 0 ≤ Z := by omega
        have m4 : 0 ≤ T := by omega
        have HE := Lib.hid (show P = p ∧ Q = q ∧ Z = z ∧ T = t from ⟨hP, hQ, hZ, hT⟩)
        have hp : p % 2 = 1 ∨ p % 2 = 0 := by omega
        have hq : q % 2 = 1 ∨ q % 2 = 0 := by omega
        rcases hp with hp | hp <;> rcases hq with hq | hq
        all_goals
          simp only [hp, hq, decide_true, decide_false] at HN
          have e1 : (P % 2 == 1) = decide (p % 2 = 1) := by rw [hP, Bool.eq_iff_iff]; simp; omega
          have e2 : (Q % 2 == 1) = decide (q % 2 = 1) := by rw [hQ, Bool.eq_iff_iff]; simp; omega
          simp only [hp, hq, decide_true, decide_false] at e1 e2
          clear hp hq hP hQ hZ hT
          go_wp2
          go_roundw
          case rel =>
            obtain ⟨h1, h2, h3, h4⟩ := HE.out
            exact ⟨k + 1, p / 2, q / 2, _, _, by omega, by go_num, by rw [h1]; go_num, by rw [h2]; go_num, by first | (rw [h3, h4]; go_num) | (rw [h3]; go_num), by rw [h4]; go_num, HN.out, trivial⟩
          case measure => simp [intOf]; omega
      · obtain rfl : k = 32 := by omega
        go_wp2
        go_ret
        exact ⟨ret_int (by rw [HBt.out.done hfl]), rfl⟩

/-- what Do tells. -/
def DoR (c : Cpu) (i : Ins) (w : World) (e : Ending) (w' : World) : Prop :=
  (match c.op i (c.r i.b.toNat) (c.num i) with
  | some d => e = .returned (.tuple #[d.val, .bool true])
  | none => e = .returned (.tuple #[c.val, .bool false])) ∧ Below w.heap.size w w'
theorem dr_some {c d : Cpu} {i : Ins} {w w' : World} {e : Ending} {m n : Int} (hn : n = c.num i) (hm : m = c.r i.b.toNat) (h : c.op i m n = some d) (he : e = .returned (.tuple #[d.val, .bool true])) (hb : Below w.heap.size w w') : DoR c i w e w' := by
  unfold DoR; rw [← hn, ← hm, h]; exact ⟨he, hb⟩
theorem dr_none {c : Cpu} {i : Ins} {w w' : World} {e : Ending} {m n : Int} (hn : n = c.num i) (hm : m = c.r i.b.toNat) (h : c.op i m n = none) (he : e = .returned (.tuple #[c.val, .bool false])) (hb : Below w.heap.size w w') : DoR c i w e w' := by
  unfold DoR; rw [← hn, ← hm, h]; exact ⟨he, hb⟩

theorem land_bits (a b : Nat) : ∀ k, k < 32 → (a &&& b).testBit k = gb 0 (a.testBit k) (b.testBit k) := fun k _ => by rw [Nat.testBit_and]; rfl
theorem lor_bits (a b : Nat) : ∀ k, k < 32 → (a ||| b).testBit k = gb 2 (a.testBit k) (b.testBit k) := fun k _ => by rw [Nat.testBit_or]; rfl
theorem xor_bits (a b : Nat) : ∀ k, k < 32 → (a ^^^ b).testBit k = gb 3 (a.testBit k) (b.testBit k) := fun k _ => by rw [Nat.testBit_xor]; rfl
theorem ann_bits (a b : Nat) (hb : b < 4294967296) : ∀ k, k < 32 → (a &&& (4294967295 - b)).testBit k = gb 1 (a.testBit k) (b.testBit k) := fun k hk => by
  have e : 4294967295 - b = 2 ^ 32 - (b + 1) := by omega
  rw [Nat.testBit_and, e, Nat.testBit_two_pow_sub_succ (by simpa using hb)]
  simp [gb, hk]

theorem both_ref (op : BinOp) (how : Nat) (hop : (op, how) = (.and, 0) ∨ (op, how) = (.andNot, 1) ∨ (op, how) = (.or, 2) ∨ (op, how) = (.xor, 3)) (a b : Int) (w : World) (ha : 0 ≤ a ∧ a < 4294967296) (hb : 0 ≤ b ∧ b < 4294967296) :
    Calls Try.prog 54 #[.int .u32 a, .int .u32 b, .int .i64 how] w fun e w' => e = .returned (.int .u32 (bits op .u32 a b)) ∧ w' = w := by
  obtain ⟨x, rfl⟩ := Int.eq_ofNat_of_zero_le ha.1
  obtain ⟨y, rfl⟩ := Int.eq_ofNat_of_zero_le hb.1
  have hx : x < 4294967296 := by omega
  have hy : y < 4294967296 := by omega
  rcases hop with h | h | h | h <;> (simp only [Prod.mk.injEq] at h; obtain ⟨rfl, rfl⟩ := h)
  · rw [show bits .and .u32 (x : Int) (y : Int) = ((x &&& y : Nat) : Int) from u32_and_nat x y hx hy]
    exact both_walk 0 (by decide) x y _ w hx hy (Nat.and_lt_two_pow (n := 32) _ hy) (land_bits x y)
  · rw [show bits .andNot .u32 (x : Int) (y : Int) = ((x &&& (4294967295 - y) : Nat) : Int) from u32_andNot_nat x y hx hy]
    exact both_walk 1 (by decide) x y _ w hx hy (Nat.and_lt_two_pow (n := 32) _ (by omega)) (ann_bits x y hy)
  · rw [show bits .or .u32 (x : Int) (y : Int) = ((x ||| y : Nat) : Int) from u32_or_nat x y hx hy]
    exact both_walk 2 (by decide) x y _ w hx hy (Nat.or_lt_two_pow (n := 32) hx hy) (lor_bits x y)
  · rw [show bits .xor .u32 (x : Int) (y : Int) = ((x ^^^ y : Nat) : Int) from u32_xor_nat x y hx hy]
    exact both_walk 3 (by decide) x y _ w hx hy (Nat.xor_lt_two_pow (n := 32) hx hy) (xor_bits x y)

end Go.Proofs.Ytkeaogphaifnmaa
