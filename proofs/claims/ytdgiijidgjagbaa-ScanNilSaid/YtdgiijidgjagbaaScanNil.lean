/- The statement ScanNil, walked: a scanner that is not there, and a zero one. -/
import Derived.Test.YtdgiijidgjagbaaScanInv
namespace Go.Proofs.Ytdgiijidgjagbaa
set_option linter.unusedVariables false
set_option linter.unusedSimpArgs false
open Go.RowKit

abbrev nulC : Array Value := #[.slice none 0 0, .int .i64 0, .int .i64 0, .int .i64 0, .int .i32 0, .int .i64 0, .string ⟨#[]⟩, .slice none 0 0, .map none, .int .i64 0, .int .i64 0]
def NulP (w : World) (p : Value) : Prop := p = .pointer none ∨ ∃ g, p = .pointer (some ⟨g, 0, none⟩) ∧ At w g nulC 52
theorem NulP.bel {w w' : World} {p : Value} (h : NulP w p) (k : Below w.heap.size w w') : NulP w' p := by
  rcases h with h | ⟨g, h, ha⟩
  · exact .inl h
  · exact .inr ⟨g, h, ha.bel k⟩

theorem there_nul {w : World} {p : Value} (h : NulP w p) : Calls Try.prog 27 #[p] w fun e w' => e = .returned (.bool false) ∧ w = w' := by
  rcases h with rfl | ⟨g, rfl, ha⟩
  · go_enter Try.func27, Try.ntmps27
    go_wp2
    go_ret
    exact ⟨rfl, rfl⟩
  · have c8 : w.cell? ⟨g, 8, none⟩ = some (.map none) := (ha.cell 8).trans rfl
    have hn : ∀ w, (binOp .neq 50 (.map none) (.map none)).run Try.prog w = .ok (.bool false) w := fun w => run_neq_map_nil w _ _ _ _ Try.underlying50
    clear ha
    go_enter Try.func27, Try.ntmps27
    go_wp2
    go_ret
    exact ⟨rfl, rfl⟩

theorem get_nul {w : World} {p : Value} (h : NulP w p) : Calls Try.prog 14 #[p] w fun e w' => e = .returned (.tuple #[]) ∧ w = w' := by
  have ht := there_nul h
  clear h
  go_enter Try.func14, Try.ntmps14
  go_wp2_with (refine ht.mono ?_; rintro e w' ⟨rfl, rfl⟩)
  refine bodyPost_ret (v := .tuple #[]) (by simp [results, Try.results14, go_sem]) rfl ?_
  exact ⟨rfl, rfl⟩
theorem mark_nul {w : World} {p : Value} (h : NulP w p) (c : Int) : Calls Try.prog 17 #[p, .int .i64 c] w fun e w' => e = .returned (.tuple #[]) ∧ w = w' := by
  have ht := there_nul h
  clear h
  go_enter Try.func17, Try.ntmps17
  go_wp2_with (refine ht.mono ?_; rintro e w' ⟨rfl, rfl⟩)
  go_end0
  exact ⟨rfl, rfl⟩
theorem markat_nul {w : World} {p : Value} (h : NulP w p) (c d : Int) : Calls Try.prog 16 #[p, .int .i64 c, .int .i64 d] w fun e w' => e = .returned (.tuple #[]) ∧ w = w' := by
  have ht := there_nul h
  clear h
  go_enter Try.func16, Try.ntmps16
  go_wp2_with (refine ht.mono ?_; rintro e w' ⟨rfl, rfl⟩)
  refine bodyPost_ret (v := .tuple #[]) (by simp [results, Try.results16, go_sem]) rfl ?_
  exact ⟨rfl, rfl⟩
theorem err_nul {w : World} {p : Value} (h : NulP w p) : Calls Try.prog 15 #[p] w fun e w' => e = .returned (.tuple #[.int .i64 0, .int .i64 0]) ∧ w = w' := by
  have ht := there_nul h
  clear h
  go_enter Try.func15, Try.ntmps15
  go_wp2_with (refine ht.mono ?_; rintro e w' ⟨rfl, rfl⟩)
  go_ret2
  exact ⟨rfl, rfl⟩
theorem name_nul {w : World} {p : Value} (h : NulP w p) : Calls Try.prog 19 #[p, .int .i64 0] w fun e w' => e = .returned (.string ⟨#[]⟩) ∧ w = w' := by
  have ht := there_nul h
  clear h
  go_enter Try.func19, Try.ntmps19
  go_wp2_with (refine ht.mono ?_; rintro e w' ⟨rfl, rfl⟩)
  go_ret
  exact ⟨rfl, rfl⟩
theorem names_nul {w : World} {p : Value} (h : NulP w p) : Calls Try.prog 20 #[p] w fun e w' => e = .returned (.int .i64 0) ∧ w = w' := by
  have ht := there_nul h
  clear h
  go_enter Try.func20, Try.ntmps20
  go_wp2_with (refine ht.mono ?_; rintro e w' ⟨rfl, rfl⟩)
  go_ret
  exact ⟨rfl, rfl⟩
set_option maxHeartbeats 1000000 in
theorem symbol_nul {w : World} {p : Value} (h : NulP w p) : Calls Try.prog 13 #[p] w fun e w' => e = .returned (.agg #[.int .i64 0, .int .i64 0, .int .i32 0, .int .i64 0, .string ⟨#[]⟩]) ∧ Below w.heap.size w w' := by
  have HH := Lib.hid h
  have HS := Lib.hid (Sep.nil w)
  clear h
  go_enter Try.func13, Try.ntmps13
  have f1 : True := trivial
  have f3 : True := trivial
  go_wp2_with (first | (have _f := f1; refine alloc_sep rfl 30 rfl HS.out (z := .agg #[.int .i64 0, .int .i64 0, .int .i32 0, .int .i64 0, .string ⟨#[]⟩]) (cs := #[.int .i64 0, .int .i64 0, .int .i32 0, .int .i64 0, .string ⟨#[]⟩]) (by kernel_rfl) rfl ?_; intro w1 S1 b1 s1; have HS1 := Lib.hid S1; have HB1 := Lib.hid b1; have HX1 := Lib.hid (HH.out.bel b1); clear S1 b1 s1 _f f1) | (refine (there_nul HX1.out).mono ?_; rintro e w' ⟨rfl, rfl⟩) | (have _f := f3; refine store_sep rfl 30 (.tmp 2) (.tmp 6) rfl HS1.out 0 rfl rfl rfl rfl (by kernel_rfl) rfl ?_; intro w2 S2 k2 s2; have HS2 := Lib.hid S2; have HK2 := Lib.hid k2; clear S2 k2 s2 _f f3))
  refine bodyPost_ret (res_cell rfl rfl (HS2.out.at 0 rfl) Try.underlying30 rfl (by kernel_rfl)) rfl ?_
  refine ⟨rfl, ?_⟩
  exact ((Ke.below (· = w.heap.size) HB1.out).trans HK2.out).toBelow (fun i hi e => absurd e (Nat.ne_of_lt hi))
set_option maxHeartbeats 1000000 in
theorem intern_nul {w : World} {p : Value} (h : NulP w p) : Calls Try.prog 23 #[p, .string ⟨#[97]⟩] w fun e w' => e = .returned (.int .i64 (-1)) ∧ w = w' := by
  have ht := there_nul h
  clear h
  go_enter Try.func23, Try.ntmps23
  go_wp2_with (refine ht.mono ?_; rintro e w' ⟨rfl, rfl⟩)
  clear ht
  go_loopg [5, 26] 1 (fun gk ok idx wr => ∃ j : Nat, j ≤ 1 ∧ 1 - j ≤ gk ∧ ok = .bool false ∧ idx = .int .i64 j ∧ wr = w)
  case atStart => exact ⟨0, by decide, by decide, rfl, rfl, rfl⟩
  case round =>
    obtain ⟨j, hj, hgk, rfl, rfl, rfl⟩ := hrel
    by_cases hj0 : j = 0
    · subst hj0
      have HG := Lib.hid hgk
      clear hgk hj
      go_wp2
      go_roundg (gk - 1)
      case measure => have := HG.out; omega
      case rel => exact ⟨1, by decide, by have := HG.out; omega, rfl, rfl, rfl⟩
    · have hj1 : j = 1 := by omega
      subst hj1
      clear hgk hj
      go_wp2
      go_ret
      exact ⟨rfl, rfl⟩

end Go.Proofs.Ytdgiijidgjagbaa
