/- What a call leaves of all blocks but one; contracts of risc.set. -/
import Derived.Test.YtkeaogphaifnmaaRiscData
import Derived.Test.YtkeaogphaifnmaaMix
namespace Go.Proofs.Ytkeaogphaifnmaa
set_option linter.unusedVariables false
set_option linter.unusedSimpArgs false
open Go.RowKit

/-- all blocks but b are as they were. -/
structure Aside (b : Nat) (w w' : World) : Prop where
  os : w'.os = w.os
  tape : w'.tape = w.tape
  output : w'.output = w.output
  size : w.heap.size ≤ w'.heap.size
  block : ∀ k, k < w.heap.size → k ≠ b → w'.heap[k]? = w.heap[k]?

theorem Aside.refl (b : Nat) (w : World) : Aside b w w := ⟨rfl, rfl, rfl, Nat.le_refl _, fun _ _ _ => rfl⟩
theorem Aside.trans {b : Nat} {a c d : World} (h : Aside b a c) (k : Aside b c d) : Aside b a d :=
  ⟨k.os.trans h.os, k.tape.trans h.tape, k.output.trans h.output, Nat.le_trans h.size k.size, fun i hi hb => (k.block i (Nat.lt_of_lt_of_le hi h.size) hb).trans (h.block i hi hb)⟩
theorem Aside.of {b : Nat} {w w' : World} (h : Below w.heap.size w w') : Aside b w w' := ⟨h.os, h.tape, h.output, h.size, fun k hk _ => h.block k hk⟩
theorem Aside.alloc {b : Nat} {a w : World} (h : Aside b a w) (o : Obj) : Aside b a (w.alloc o) := h.trans (.of ((Below.refl _ _).alloc (Nat.le_refl _) o))
theorem Aside.drewN {b : Nat} {a w : World} (h : Aside b a w) (n : Nat) : Aside b a (w.drewN n) := ⟨h.os, h.tape, h.output, h.size, h.block⟩
theorem Aside.setCell {b : Nat} {a w : World} (h : Aside b a w) {p : Addr} (hp : p.block = b) (u : Value) : Aside b a (w.setCell p u) :=
  h.trans ⟨rfl, rfl, rfl, by simp [World.setCell], fun k hk hb => Below.heap_setCell _ _ _ _ (by rw [hp]; exact hb)⟩
theorem Aside.below {b B : Nat} {w w' : World} (h : Aside b w w') (hB : B ≤ b) (hs : B ≤ w.heap.size) : Below B w w' :=
  ⟨h.os, h.tape, h.output, h.size, fun k hk => h.block k (by omega) (by omega)⟩

def Cpu.set (c : Cpu) (a x : Int) : Cpu := { c with r := fun i => if i = a.toNat then x else c.r i, n := decide (2147483648 ≤ x), z := decide (x = 0) }

theorem set_walk (c : Cpu) (b : Nat) (a x : Int) (w : World) (h : Holds w b c) (ha : 0 ≤ a ∧ a < 16) (hx : 0 ≤ x ∧ x < 4294967296) :
    Calls Try.prog 36 #[.pointer (some ⟨b, 0, none⟩), .int .i64 a, .int .u32 x] w fun e w' => e = .returned (.tuple #[]) ∧ Holds w' b (c.set a x) ∧ Aside b w w' := by
  obtain ⟨j, rfl⟩ := Int.eq_ofNat_of_zero_le ha.1
  have hj : j < 16 := by omega
  have hr := h.reg j hj
  have hn := h.n
  have hz := h.z
  have f0 := h.free j
  have f1 := h.free 17
  have f2 := h.free 18
  have HH := Lib.hid h
  clear h
  go_enter Try.func36, Try.ntmps36
  go_wp2_with fail
  have hw : (decide (wrap32 x < 0)) = decide (2147483648 ≤ x) := by rw [Bool.eq_iff_iff, decide_eq_true_eq, decide_eq_true_eq]; unfold wrap32; omega
  refine bodyPost_end (by simp [results, Try.results36, go_sem]) rfl ⟨rfl, ?_, ?_⟩
  · refine cpu_store (cpu_store (cpu_store HH.out j _ (set_reg c j hj x)) 17 _ (c' := { c with r := fun i => if i = j then x else c.r i, n := decide (2147483648 ≤ x) }) ?_) 18 _ (c' := c.set j x) ?_
    · rw [hw]; rfl
    · rfl
  · exact (((Aside.refl b w).setCell rfl _).setCell rfl _).setCell rfl _

end Go.Proofs.Ytkeaogphaifnmaa
