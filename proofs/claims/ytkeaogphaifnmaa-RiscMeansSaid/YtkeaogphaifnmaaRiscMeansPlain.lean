/- Plain: what an instruction leaves as it was. -/
import Derived.Test.YtkeaogphaifnmaaRiscPlain
namespace Go.Proofs.Ytkeaogphaifnmaa
set_option linter.unusedVariables false
set_option linter.unusedSimpArgs false
open Go.RowKit

def jmp (c : Cpu) (i : Ins) : Bool := decide (i.form = 4 ∨ i.form = 5) && c.cond i.cond

structure MeansP (c : Cpu) (i : Ins) (d : Cpu) (v : Ev) : Prop where
  pc : jmp c i = false → d.pc = (c.pc + 1) % 4294967296
  r : ∀ n : Nat, n < 16 → ¬ (i.form ≤ 1 ∧ (n : Int) = i.a) → ¬ (jmp c i = true ∧ i.v = true ∧ n = 15) → d.r n = c.r n
  ev : i.form ≤ 1 → v.kind = 0 ∨ (v.kind = 5 ∧ i.op = 11)
  fl : ¬ i.form ≤ 1 → d.n = c.n ∧ d.z = c.z ∧ d.c = c.c ∧ d.v = c.v ∧ d.h = c.h

theorem op_keeps (c : Cpu) (i : Ins) (b n : Int) (ha : 0 ≤ i.a) (ho : 0 ≤ i.op ∧ i.op ≤ 11) :
    (∀ d, c.op i b n = some d → d.pc = c.pc ∧ ∀ k : Nat, (k : Int) ≠ i.a → d.r k = c.r k) ∧ (c.op i b n = none → i.op = 11) := by
  have hset : ∀ (e : Cpu) (x : Int), (e.pc = c.pc ∧ e.r = c.r) → (e.set i.a x).pc = c.pc ∧ ∀ k : Nat, (k : Int) ≠ i.a → (e.set i.a x).r k = c.r k := by
    intro e x he
    refine ⟨he.1, fun k hk => ?_⟩
    show (if k = i.a.toNat then x else e.r k) = c.r k
    rw [if_neg (by omega), he.2]
  have hs : i.op = 0 ∨ i.op = 1 ∨ i.op = 2 ∨ i.op = 3 ∨ i.op = 4 ∨ i.op = 5 ∨ i.op = 6 ∨ i.op = 7 ∨ i.op = 8 ∨ i.op = 9 ∨ i.op = 10 ∨ i.op = 11 := by omega
  constructor
  · intro d h
    unfold Cpu.op at h
    rcases hs with e | e | e | e | e | e | e | e | e | e | e | e
    all_goals (rw [e] at h; simp only [Int.reduceEq, if_true, if_false, ↓reduceIte] at h)
    all_goals first
      | (injection h with h; subst h; exact hset _ _ ⟨rfl, rfl⟩)
      | skip
    by_cases hn : 0 < n ∧ n < 2147483648
    · rw [if_pos hn] at h; injection h with h; subst h; exact hset _ _ ⟨rfl, rfl⟩
    · rw [if_neg hn] at h; exact absurd h (by intro h; cases h)
  · intro h
    unfold Cpu.op at h
    rcases hs with e | e | e | e | e | e | e | e | e | e | e | e
    all_goals first
      | exact e
      | (rw [e] at h; simp only [Int.reduceEq, if_true, if_false, ↓reduceIte] at h; exact absurd h (by intro h; cases h))
      | (rw [e] at h; simp at h)

theorem means_plain (c : Cpu) {i : Ins} (hm : i.May) {d : Cpu} {v : Ev} (h : c.next.exec i = (d, v)) : MeansP c i d v := by
  have hop := op_keeps c.next i (c.next.r i.b.toNat) (c.next.num i) hm.a.1 hm.op
  have hform := hm.form
  unfold Cpu.exec at h
  by_cases h1 : i.form ≤ 1
  · rw [if_pos h1] at h
    have hj : jmp c i = false := by
      unfold jmp
      rw [decide_eq_false (by omega)]; rfl
    cases ho : c.next.op i (c.next.r i.b.toNat) (c.next.num i) with
    | some e =>
      rw [ho] at h
      have hd : e = d ∧ Ev.none = v := by simpa [outOf] using h
      obtain ⟨rfl, rfl⟩ := hd
      have hh := hop.1 _ ho
      refine ⟨fun _ => hh.1, fun n hn hna _ => hh.2 n (fun he => hna ⟨h1, he⟩), fun _ => .inl rfl, fun h2 => absurd h1 h2⟩
    | none =>
      rw [ho] at h
      have hd : c.next = d ∧ Ev.odd = v := by simpa [outOf] using h
      obtain ⟨rfl, rfl⟩ := hd
      exact ⟨fun _ => rfl, fun n hn hna _ => rfl, fun _ => .inr ⟨rfl, hop.2 ho⟩, fun h2 => absurd h1 h2⟩
  · rw [if_neg h1] at h
    by_cases h2 : i.form = 2
    · rw [if_pos h2] at h
      injection h with e1 e2; subst e1
      exact ⟨fun _ => rfl, fun n hn hna _ => rfl, fun h3 => absurd h3 h1, fun _ => ⟨rfl, rfl, rfl, rfl, rfl⟩⟩
    · rw [if_neg h2] at h
      by_cases h3 : i.form = 3
      · rw [if_pos h3] at h
        injection h with e1 e2; subst e1
        exact ⟨fun _ => rfl, fun n hn hna _ => rfl, fun h3 => absurd h3 h1, fun _ => ⟨rfl, rfl, rfl, rfl, rfl⟩⟩
      · rw [if_neg h3] at h
        by_cases h4 : c.next.cond i.cond = false
        · rw [if_pos h4] at h
          injection h with e1 e2; subst e1
          exact ⟨fun _ => rfl, fun n hn hna _ => rfl, fun h3 => absurd h3 h1, fun _ => ⟨rfl, rfl, rfl, rfl, rfl⟩⟩
        · rw [if_neg h4] at h
          by_cases h6 : i.form = 6
          · rw [if_pos h6] at h
            injection h with e1 e2; subst e1
            exact ⟨fun _ => rfl, fun n hn hna _ => rfl, fun h3 => absurd h3 h1, fun _ => ⟨rfl, rfl, rfl, rfl, rfl⟩⟩
          · rw [if_neg h6] at h
            have hj : jmp c i = true := by
              unfold jmp
              rw [decide_eq_true (by omega)]
              have h5 : c.next.cond i.cond = true := by simpa using h4
              have : c.cond i.cond = true := h5
              rw [this]; rfl
            injection h with e1 e2; subst e1
            refine ⟨fun hh => absurd hj (by rw [hh]; decide), fun n hn hna hnj => ?_, fun h3 => absurd h3 h1, fun _ => ⟨rfl, rfl, rfl, rfl, rfl⟩⟩
            show (if i.v then (fun j => if j = 15 then 4 * c.next.pc % 4294967296 else c.next.r j) else c.next.r) n = c.r n
            cases hv : i.v with
            | false => rfl
            | true =>
              show (if n = 15 then 4 * c.next.pc % 4294967296 else c.next.r n) = c.r n
              rw [if_neg (fun he => hnj ⟨hj, hv, he⟩)]; rfl

end Go.Proofs.Ytkeaogphaifnmaa
