/- 's[:n]', 's[n:]', shifts, 'string(b)', results that lie in variables: rules over live slots. Over whatever program. -/
import Derived.Test.YtfnibpkojhgflaaFrRows
import Derived.Test.YtfnibpkojhgflaaFrEq
import Derived.Laws.BitsAllLaws
import Derived.Laws.Shifts
namespace Go.Proofs.Ytfnibpkojhgflaa
set_option linter.unusedVariables false
set_option linter.unusedSimpArgs false
open Go.RowKit

variable {P : Program} {B : Code} {n : Nat} {Q : Exit → Act → World → Prop} {p : List Nat} {i : Nat} {is : List Nat} {l : Slots} {w w' : World} {C : World → Prop} {K : Act → Prop}

/-- an operation's own value, as the interpreter gives it. -/
def exAt (B : Code) (n : Nat) (p : List Nat) (l : Slots) (i : Nat) : Option (Option Nat × Sem Next) :=
  match opAt B n p l i with
  | some o => bif notSel o.op && knowAll l (looks o.op) then some (o.dst, execOp (evL l) o) else none
  | none => none
def nx (m : Sem Value) : Sem Next := do pure (.value (← m))
theorem exAt_run {d : Option Nat} {m : Sem Value} {v : Value} (h : exAt B n p l i = some (d, nx m)) (hr : m.run P w = .ok v w) : ∃ o, opAt B n p l i = some o ∧ o.dst = d ∧ ∀ a, Fr n l a → (execOp a.eval o).run P w = .ok (.value v) w := by
  unfold exAt at h
  cases ho : opAt B n p l i with
  | none => rw [ho] at h; cases h
  | some o =>
    rw [ho] at h
    simp only at h
    cases hk : (notSel o.op && knowAll l (looks o.op)) with
    | false => rw [hk] at h; cases h
    | true =>
      rw [hk] at h
      simp only [cond_true, Option.some.injEq, Prod.mk.injEq] at h
      rw [Bool.and_eq_true] at hk
      refine ⟨o, rfl, h.1, fun a ha => ?_⟩
      rw [exec_eq ha hk.1 hk.2, h.2]
      unfold nx
      rw [Sem.run_bind, hr]; rfl
theorem SL.ex {d : Nat} {m : Sem Value} {v : Value} (h : exAt B n p l i = some (some d, nx m)) (hr : m.run P w = .ok v w) (k : SL P B n Q p is ((d, v) :: l) w) : SL P B n Q p (i :: is) l w := SL.byRun (exAt_run h hr) k

theorem SU.ex [hne : Nonempty (Later C)] {d : Nat} {m : Sem Value} {v : Value} (h : exAt B n p l i = some (some d, nx m)) (hr : ∀ y, C y → m.run P y = .ok v y) (k : SU P B n C K p is ((d, v) :: l)) : SU P B n C K p (i :: is) l := SU.byRun (fun y hy => exAt_run h (hr y hy)) k

theorem cut_h {t e : TypeId} {b o len cap : Nat} {k : IntKind} {m : Int} (j : Nat) (hu : P.underlying t = some (.slice e)) (hs : (P.info? e).map (·.size) = some 1) (hm : m = (j : Int)) (hc : j ≤ cap) :
    (Instr.sliceAt t (.slice (some ⟨b, o, none⟩) len cap) none (some (.int k m)) none).run P w = .ok (.slice (some ⟨b, o, none⟩) j cap) w := by
  have ht' : P.underlying t = some (.slice (P.elem t)) := by simp [Program.elem, hu]
  have he : P.elem t = e := by simp [Program.elem, hu]
  rw [run_sliceAt_slice _ _ _ _ _ _ ht', run_slice_h w t _ _ _ ht' k m (by omega) (by omega), he]
  cases hq : P.info? e with
  | none => simp [hq] at hs
  | some it =>
    simp only [hq, Option.map_some, Option.some.injEq] at hs
    subst hm
    simp [sizeOf, typeInfo, hq, hs, sliced, Addr.add, Sem.run_bind, Result.andThen]
theorem cut_l {t e : TypeId} {b o len cap : Nat} {k : IntKind} {m : Int} (j : Nat) (hu : P.underlying t = some (.slice e)) (hs : (P.info? e).map (·.size) = some 1) (hm : m = (j : Int)) (hc : j ≤ len) :
    (Instr.sliceAt t (.slice (some ⟨b, o, none⟩) len cap) (some (.int k m)) none none).run P w = .ok (.slice (if cap = j then some ⟨b, o, none⟩ else some ⟨b, o + j, none⟩) (len - j) (cap - j)) w := by
  have ht' : P.underlying t = some (.slice (P.elem t)) := by simp [Program.elem, hu]
  have he : P.elem t = e := by simp [Program.elem, hu]
  rw [run_sliceAt_slice _ _ _ _ _ _ ht', run_slice_l w t _ _ _ ht' k m (by omega) (by omega), he]
  cases hq : P.info? e with
  | none => simp [hq] at hs
  | some it =>
    simp only [hq, Option.map_some, Option.some.injEq] at hs
    subst hm
    by_cases h0 : cap = j
    · simp [sizeOf, typeInfo, hq, hs, sliced, Addr.add, Sem.run_bind, Result.andThen, h0]
    · simp [sizeOf, typeInfo, hq, hs, sliced, Addr.add, Sem.run_bind, Result.andThen, h0]

theorem cut_nil {t e : TypeId} {k : IntKind} {lo hi : Option Value} (hu : P.underlying t = some (.slice e)) (hs : (P.info? e).map (·.size) = some 1) (hl : lo = none ∨ lo = some (.int k 0)) (hh : hi = none ∨ hi = some (.int k 0)) :
    (Instr.sliceAt t (.slice none 0 0) lo hi none).run P w = .ok (.slice none 0 0) w := by
  have ht' : P.underlying t = some (.slice (P.elem t)) := by simp [Program.elem, hu]
  have he : P.elem t = e := by simp [Program.elem, hu]
  cases hq : P.info? e with
  | none => simp [hq] at hs
  | some it =>
    rw [run_sliceAt_slice _ _ _ _ _ _ ht']
    rcases hl with rfl | rfl <;> rcases hh with rfl | rfl
    · rw [run_slice_all w t _ _ _ ht', he]; simp [sizeOf, typeInfo, hq, sliced, Sem.run_bind, Result.andThen]
    · rw [run_slice_h w t _ _ _ ht' k 0 (by omega) (by omega), he]; simp [sizeOf, typeInfo, hq, sliced, Sem.run_bind, Result.andThen]
    · rw [run_slice_l w t _ _ _ ht' k 0 (by omega) (by omega), he]; simp [sizeOf, typeInfo, hq, sliced, Sem.run_bind, Result.andThen]
    · rw [run_slice_lh w t _ _ _ ht' k k 0 0 (by omega) (by omega) (by omega), he]; simp [sizeOf, typeInfo, hq, sliced, Sem.run_bind, Result.andThen]

/-! ### results -/
theorem ld_var {ty : TypeId} {a : Addr} {v : Value} (h : (Instr.loadAt ty (.pointer (some a))).run P w = .ok v w) : (loadVar ty a).run P w = .ok v w := by
  simpa [Instr.loadAt, Instr.sureAddr] using h
theorem res_c {fn : Func} {p : Tmp} {ty : TypeId} (h : fn.results = #[.cell p ty]) {tmps : Array Value} {a : Addr} {v : Value} (hp : tmps.getD p undef = .pointer (some a)) (hl : (Instr.loadAt ty (.pointer (some a))).run P w = .ok v w) :
    (results fn tmps).run P w = .ok v w := by
  have hp' : tmps[p]?.getD undef = .pointer (some a) := by simpa using hp
  simp only [results, h]
  simp [Sem.run_bind, Result.andThen, hp', asAddr, ld_var hl]
theorem res_c_t_t {fn : Func} {p u z : Tmp} {ty : TypeId} (h : fn.results = #[.cell p ty, .tmp u, .tmp z]) {tmps : Array Value} {a : Addr} {v x y : Value} (hp : tmps.getD p undef = .pointer (some a)) (hu : tmps.getD u undef = x) (hz : tmps.getD z undef = y) (hl : (Instr.loadAt ty (.pointer (some a))).run P w = .ok v w) :
    (results fn tmps).run P w = .ok (.tuple #[v, x, y]) w := by
  have hp' : tmps[p]?.getD undef = .pointer (some a) := by simpa using hp
  have hu' : tmps[u]?.getD undef = x := by simpa using hu
  have hz' : tmps[z]?.getD undef = y := by simpa using hz
  simp only [results, h]
  simp [Sem.run_bind, Result.andThen, hp', hu', hz', asAddr, ld_var hl]

/-! ### bits -/
theorem or_byte {k : Nat} {x y : Int} (hx : 0 ≤ x ∧ x < 2 ^ k) (hy : 0 ≤ y ∧ y < 256) (hk : k ≤ 24) : bits .or .u32 x (y * 2 ^ k) = x + y * 2 ^ k := by
  obtain ⟨a, rfl⟩ := Int.eq_ofNat_of_zero_le hx.1
  obtain ⟨b, rfl⟩ := Int.eq_ofNat_of_zero_le hy.1
  have ha : a < 2 ^ k := by have := hx.2; exact_mod_cast this
  have hb : b < 256 := by omega
  have hp : 2 ^ k ≤ 2 ^ 24 := Nat.pow_le_pow_right (by decide) hk
  have h1 : b * 2 ^ k ≤ 255 * 2 ^ 24 := Nat.mul_le_mul (by omega) hp
  rw [show ((b : Int) * 2 ^ k) = ((b * 2 ^ k : Nat) : Int) from by push_cast; rfl, u32_or_nat a (b * 2 ^ k) (by omega) (by omega), Nat.or_comm, nat_join k (b * 2 ^ k) a (Nat.mul_mod_left _ _) ha]
  push_cast
  omega
end Go.Proofs.Ytfnibpkojhgflaa
