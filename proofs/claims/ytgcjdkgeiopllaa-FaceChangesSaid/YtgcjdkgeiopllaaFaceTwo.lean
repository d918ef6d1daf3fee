/- The key of two references. -/
import Derived.Test.YtgcjdkgeiopllaaLibC
import Derived.Test.YtgcjdkgeiopllaaProg
import Derived.DeepKeys4
namespace Go.Proofs.Ytgcjdkgeiopllaa
set_option linter.unusedVariables false
set_option linter.unusedSimpArgs false
open Go.RowKit

theorem two_laid : laidOutB Try.prog = true := by kernel_rfl
theorem two_keyed : Go.Maps.Keyed Try.prog 99 := Go.Maps.Keyed.of_law (deep_law_laid two_laid (m := 4) (by omega) (of_decide_eq_true (by kernel_rfl)) (by kernel_rfl) (by kernel_rfl))
def twoV (m i n j : Int) : Value := .agg #[.int .i64 m, .int .i64 i, .int .i64 n, .int .i64 j]
def twoL (m i n j : Int) : Lit := .string (keyBytes [.int .i64 m, .int .i64 i, .int .i64 n, .int .i64 j])
theorem wf_i64 {x : Int} (h : -9223372036854775808 ≤ x ∧ x ≤ 9223372036854775807) : (Lit.int .i64 x).wf = true := by
  unfold Lit.wf; have := bd_i64' h; simpa using this
theorem int_lits (d : Nat) (x : Int) (h : (Lit.int .i64 x).wf = true) : Try.prog.keyLits (d + 1) 3 [.int .i64 x] = some [.int .i64 x] := by
  unfold Program.keyLits
  simp only [Try.underlying3]
  rw [if_pos ⟨trivial, h⟩]
theorem ref_lits (d : Nat) (m i : Int) (hm : (Lit.int .i64 m).wf = true) (hi : (Lit.int .i64 i).wf = true) : Try.prog.keyLits (d + 2) 34 [.int .i64 m, .int .i64 i] = some [.int .i64 m, .int .i64 i] := by
  unfold Program.keyLits
  simp only [Try.underlying34]
  rw [if_pos ⟨by kernel_rfl, by kernel_rfl⟩]
  simp [int_lits, hm, hi, show Try.prog.cellsOf 3 = 1 from by kernel_rfl]
theorem two_key (m i n j : Int) (hm : (Lit.int .i64 m).wf = true) (hi : (Lit.int .i64 i).wf = true) (hn : (Lit.int .i64 n).wf = true) (hj : (Lit.int .i64 j).wf = true) : keyOf Try.prog 99 (twoV m i n j) = some (twoL m i n j) := by
  have hkt : Try.prog.keyType 99 = true := by kernel_rfl
  have hz : Try.prog.types.size = Try.prog.types.size - 2 + 2 := by kernel_rfl
  have hf : (twoV m i n j).formed Try.prog 99 = true := by
    unfold twoV Value.formed; simp only [Try.underlying99]
    rw [show Try.prog.cellsOf 99 = 4 from by kernel_rfl]; rfl
  unfold keyOf
  simp only [Try.underlying99]
  rw [hkt, hf, if_pos (show (true && true) = true from rfl), hz]
  unfold Program.keyLits
  simp only [Try.underlying99]
  rw [if_pos ⟨by kernel_rfl, by kernel_rfl⟩]
  simp [twoV, twoL, Value.cells, ref_lits, hm, hi, hn, hj, show Try.prog.cellsOf 34 = 2 from by kernel_rfl]
end Go.Proofs.Ytgcjdkgeiopllaa
