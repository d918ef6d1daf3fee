/- A table that is not there, and a zero one. -/
import Derived.Test.YtbppoegdmmflmaaTabFive
namespace Go.Proofs.Ytbppoegdmmflmaa
set_option linter.unusedVariables false
set_option linter.unusedSimpArgs false
open Go.RowKit

def NulT (w : World) (v : Value) : Prop := v = .pointer none ∨ ∃ g, v = .pointer (some ⟨g, 0, none⟩) ∧ w.cell? ⟨g, 0, none⟩ = some (.slice none 0 0) ∧ w.cell? ⟨g, 1, none⟩ = some (.int .i64 0) ∧ g < w.heap.size
theorem NulT.bel {w w' : World} {v : Value} (h : NulT w v) (b : Below w.heap.size w w') : NulT w' v := by
  rcases h with h | ⟨g, h, c0, c1, hl⟩
  · exact .inl h
  · exact .inr ⟨g, h, (b.cell hl).trans c0, (b.cell hl).trans c1, Nat.lt_of_lt_of_le hl b.size⟩

set_option maxHeartbeats 2000000 in
theorem nul_in {w : World} {v : Value} (h : NulT w v) (n : Int) (hn : 1 ≤ n) : Calls Try.prog 30 #[v, .int .i64 n] w fun e w' => e = .returned (.bool false) ∧ w' = w := by
  have h0 : decide (n < 0) = false := decide_eq_false (by omega)
  rcases h with rfl | ⟨g, rfl, c0, c1, hl⟩
  all_goals
    (go_enter Try.func30, Try.ntmps30
     go_wp2_with fail
     go_ret)
  · exact ⟨rfl, rfl⟩
  · refine ⟨?_, rfl⟩
    first | rfl | (rw [← h0]; rfl)

set_option maxHeartbeats 2000000 in
theorem nul_made {w : World} {v : Value} (h : NulT w v) (n f : Int) (hn : 1 ≤ n) : Calls Try.prog 37 #[v, .int .i64 n, .int .i64 f] w fun e w' => e = .returned (.bool false) ∧ w' = w := by
  have HI := Lib.hid (nul_in h n hn)
  go_enter Try.func37, Try.ntmps37
  go_wp2_with fail
  refine HI.out.mono ?_
  rintro e w' ⟨rfl, rfl⟩
  go_wp2_with fail
  go_ret
  exact ⟨rfl, rfl⟩


set_option maxHeartbeats 2000000 in
theorem nul_size {w : World} {v : Value} (h : NulT w v) : Calls Try.prog 9 #[v, .int .i64 1] w fun e w' => e = .returned (.int .i64 0) ∧ w' = w := by
  have HI := Lib.hid (nul_in h 1 (by decide))
  clear h
  go_enter Try.func9, Try.ntmps9
  go_wp2_with fail
  refine HI.out.mono ?_
  rintro e w' ⟨rfl, rfl⟩
  go_wp2_with fail
  go_ret
  exact ⟨rfl, rfl⟩

set_option maxHeartbeats 2000000 in
theorem nul_scalar {w : World} {v : Value} (h : NulT w v) : Calls Try.prog 20 #[v, .int .i64 1] w fun e w' => e = .returned (.bool false) ∧ w' = w := by
  have HI := Lib.hid (nul_in h 1 (by decide))
  clear h
  go_enter Try.func20, Try.ntmps20
  go_wp2_with fail
  refine HI.out.mono ?_
  rintro e w' ⟨rfl, rfl⟩
  go_wp2_with fail
  go_ret
  exact ⟨rfl, rfl⟩

set_option maxHeartbeats 2000000 in
theorem nul_integer {w : World} {v : Value} (h : NulT w v) : Calls Try.prog 21 #[v, .int .i64 1] w fun e w' => e = .returned (.bool false) ∧ w' = w := by
  have HI := Lib.hid (nul_in h 1 (by decide))
  clear h
  go_enter Try.func21, Try.ntmps21
  go_wp2_with fail
  refine HI.out.mono ?_
  rintro e w' ⟨rfl, rfl⟩
  go_wp2_with fail
  go_ret
  exact ⟨rfl, rfl⟩

set_option maxHeartbeats 2000000 in
theorem nul_fits {w : World} {v : Value} (h : NulT w v) : Calls Try.prog 22 #[v, .int .i64 1, .int .i64 1] w fun e w' => e = .returned (.bool false) ∧ w' = w := by
  have HI := Lib.hid (nul_in h 1 (by decide))
  clear h
  go_enter Try.func22, Try.ntmps22
  go_wp2_with fail
  refine HI.out.mono ?_
  rintro e w' ⟨rfl, rfl⟩
  go_wp2_with fail
  go_ret
  exact ⟨rfl, rfl⟩

set_option maxHeartbeats 2000000 in
theorem nul_put {w : World} {v : Value} (h : NulT w v) : Calls Try.prog 23 #[v, .int .i64 1, .int .i64 1, .int .i64 1] w fun e w' => e = .returned (.int .i64 30) ∧ w' = w := by
  have HI := Lib.hid (nul_made h 1 2 (by decide))
  clear h
  go_enter Try.func23, Try.ntmps23
  go_wp2_with fail
  refine HI.out.mono ?_
  rintro e w' ⟨rfl, rfl⟩
  go_wp2_with fail
  go_ret
  exact ⟨rfl, rfl⟩

set_option maxHeartbeats 2000000 in
theorem nul_end {w : World} {v : Value} (h : NulT w v) : Calls Try.prog 24 #[v, .int .i64 1] w fun e w' => e = .returned (.int .i64 30) ∧ w' = w := by
  have HI := Lib.hid (nul_made h 1 2 (by decide))
  clear h
  go_enter Try.func24, Try.ntmps24
  go_wp2_with fail
  refine HI.out.mono ?_
  rintro e w' ⟨rfl, rfl⟩
  go_wp2_with fail
  go_ret
  exact ⟨rfl, rfl⟩

set_option maxHeartbeats 2000000 in
theorem nul_len {w : World} {v : Value} (h : NulT w v) : Calls Try.prog 15 #[v] w fun e w' => e = .returned (.int .i64 0) ∧ w' = w := by
  rcases h with rfl | ⟨g, rfl, c0, c1, hl⟩
  all_goals
    (go_enter Try.func15, Try.ntmps15
     go_wp2_with fail
     go_ret
     exact ⟨rfl, rfl⟩)

set_option maxHeartbeats 2000000 in
theorem nul_setbase {w : World} {v : Value} (h : NulT w v) : Calls Try.prog 16 #[v, .int .i64 7, .int .i64 1] w fun e w' => e = .returned (.tuple #[]) ∧ w' = w := by
  have HI := Lib.hid (nul_made h 7 3 (by decide))
  clear h
  go_enter Try.func16, Try.ntmps16
  go_wp2_with fail
  refine HI.out.mono ?_
  rintro e w' ⟨rfl, rfl⟩
  go_wp2_with fail
  go_end0
  exact ⟨rfl, rfl⟩

set_option maxHeartbeats 2000000 in
theorem nul_setref {w : World} {v : Value} (h : NulT w v) : Calls Try.prog 17 #[v, .int .i64 1, .int .i64 2, .int .i64 3] w fun e w' => e = .returned (.tuple #[]) ∧ w' = w := by
  have HI := Lib.hid (nul_in h 1 (by decide))
  clear h
  go_enter Try.func17, Try.ntmps17
  go_wp2_with fail
  refine HI.out.mono ?_
  rintro e w' ⟨rfl, rfl⟩
  go_wp2_with fail
  go_end0
  exact ⟨rfl, rfl⟩

set_option maxHeartbeats 2000000 in
theorem nul_add {w : World} {v : Value} (h : NulT w v) (x : Ty) : Calls Try.prog 31 #[v, x.val] w fun e w' => e = .returned (.tuple #[.int .i64 0, .int .i64 64]) ∧ Below w.heap.size w w' := by
  rcases h with rfl | ⟨g, rfl, c0, c1, hl⟩
  · go_enter Try.func31, Try.ntmps31
    go_wp2_with (refine box_sep rfl 36 (.tmp 1) rfl (Sep.nil w) rfl (Ty.val_cells x) ?_; intro w1 S1 b1 s1; clear s1 S1)
    go_ret2
    exact ⟨rfl, b1⟩
  · go_enter Try.func31, Try.ntmps31
    go_wp2_with (refine box_sep rfl 36 (.tmp 1) rfl (Sep.nil w) rfl (Ty.val_cells x) ?_; intro w1 S1 b1 s1; clear s1 S1; have d0 := (b1.cell (p := ⟨g, 0, none⟩) hl).trans c0)
    go_ret2
    exact ⟨rfl, b1⟩

set_option maxHeartbeats 2000000 in
theorem nul_record {w : World} {v : Value} (h : NulT w v) : Calls Try.prog 12 #[v] w fun e w' => e = .returned (.tuple #[.int .i64 0, .int .i64 64]) ∧ Below w.heap.size w w' := by
  have HC := Lib.hid (nul_add h ⟨2, 0, 0, 0, none, 0, 0, 0, 0⟩)
  clear h
  go_enter Try.func12, Try.ntmps12
  go_wp2_with fail
  refine HC.out.mono ?_
  rintro e w' ⟨rfl, hr⟩
  have HR := Lib.hid hr
  clear hr
  go_wp2_with fail
  go_ret2
  exact ⟨rfl, HR.out⟩

set_option maxHeartbeats 4000000 in
theorem nul_get {w : World} {v : Value} (h : NulT w v) : Calls Try.prog 18 #[v, .int .i64 1] w fun e w' => e = .returned (.tuple #[Ty.none.val, .bool false]) ∧ Below w.heap.size w w' := by
  have H1 := (Sep.nil w).alloc Ty.none.cells.toArray 36
  have b1 := Lib.hid (bel1 w (.cells Ty.none.cells.toArray 36))
  have HI := nul_in (h.bel b1.out) 1 (by decide)
  have HH := Lib.hid H1
  simp only [Ty.none, Ty.cells] at HI
  have HI2 := Lib.hid HI
  clear h HI H1
  go_enter Try.func18, Try.ntmps18
  go_wp2_with fail
  refine HI2.out.mono ?_
  rintro e w1 ⟨rfl, rfl⟩
  go_wp2_with (refine store_sep rfl 36 (.tmp 4) (.tmp 11) rfl HH.out 0 rfl rfl rfl (by kernel_rfl) rfl ?_ ?_; rfl; intro w2 S2 k2 s2; clear s2)
  refine bodyPost_ret (res_cell_tmp rfl rfl (S2.at 0 rfl) Try.underlying36 rfl (by kernel_rfl)) rfl ?_
  exact ⟨rfl, b1.out.trans (Below.ofKe k2 (fun i e => Nat.le_of_eq e.symm) b1.out.size)⟩

set_option maxHeartbeats 4000000 in
theorem nul_field {w : World} {v : Value} (h : NulT w v) : Calls Try.prog 19 #[v, .int .i64 1, .int .i64 1] w fun e w' => e = .returned (.tuple #[(Fld.mk 0 0 0).val, .bool false]) ∧ Below w.heap.size w w' := by
  have H1 := (Sep.nil w).alloc2 #[.int .i64 1] #[.int .i64 0, .int .i64 0, .int .i64 0] 3 48
  have b1 := Lib.hid (bel2 w (.cells #[.int .i64 1] 3) (.cells #[.int .i64 0, .int .i64 0, .int .i64 0] 48))
  have HI2 := Lib.hid (nul_made (h.bel b1.out) 1 2 (by decide))
  have HH := Lib.hid H1
  clear h H1
  go_enter Try.func19, Try.ntmps19
  go_wp2_with fail
  refine HI2.out.mono ?_
  rintro e w1 ⟨rfl, rfl⟩
  go_wp2_with (refine store_sep rfl 48 (.tmp 6) (.tmp 14) rfl HH.out 0 rfl rfl rfl (by kernel_rfl) rfl ?_ ?_; rfl; intro w2 S2 k2 s2; clear s2)
  refine bodyPost_ret (res_cell_tmp rfl rfl (S2.at 0 rfl) Try.underlying48 rfl (by kernel_rfl)) rfl ?_
  exact ⟨rfl, b1.out.trans (Below.ofKe k2 (fun i e => by have e' : i = w.heap.size + 1 := e; omega) b1.out.size)⟩

end Go.Proofs.Ytbppoegdmmflmaa
