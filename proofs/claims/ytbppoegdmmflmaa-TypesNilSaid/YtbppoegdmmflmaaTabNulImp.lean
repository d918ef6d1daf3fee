/- A table that is not there, and a zero one: what is imported. -/
import Derived.Test.YtbppoegdmmflmaaTabNul
namespace Go.Proofs.Ytbppoegdmmflmaa
set_option linter.unusedVariables false
set_option linter.unusedSimpArgs false
open Go.RowKit

theorem imp_bel {w w0 w2 w2' w3 : World} (b0 : Below w.heap.size w w0) (k2 : Ke (· = w.heap.size) w0 w2) (b2 : Below w2.heap.size w2 w2') (k3 : Ke (· = w2.heap.size) w2' w3) : Below w.heap.size w w3 := by
  have h1 := b0.size
  have h2 := k2.size
  refine b0.trans (Below.ofKe (G := fun i => w.heap.size ≤ i) ?_ (fun _ h => h) h1)
  exact (k2.mono (fun i _ e => Nat.le_of_eq (Eq.symm e))).trans ((Ke.below _ b2).trans (k3.mono (fun i _ e => by
    have e' : i = w2.heap.size := e
    show w.heap.size ≤ i
    omega)))

set_option maxRecDepth 20000 in
set_option maxHeartbeats 8000000 in
theorem nul_import {w : World} {v : Value} (h : NulT w v) : Calls Try.prog 14 #[v, Ty.none.val] w fun e w' => e = .returned (.tuple #[.int .i64 0, .int .i64 64]) ∧ Below w.heap.size w w' := by
  have HN := Lib.hid h
  rcases h with rfl | ⟨g, rfl, c0, c1, hl⟩
  · ( go_enter Try.func14, Try.ntmps14 ; go_wp2_with (refine box_sep rfl 36 (.tmp 1) rfl (Sep.nil w) rfl (show Ty.none.val.cells = #[.int .i64 0, .int .i64 0, .int .i64 0, .int .i64 0, .slice none 0 0, .int .i64 0, .int .i64 0] from rfl) ?_; intro w0 S0 b0 s0; clear s0; have c4 : w0.cell? ⟨w.heap.size, 4, none⟩ = some (.slice none 0 0) := ((S0.at 0 rfl).cell 4).trans rfl) ; refine (clone_nil _).mono ?_ ; rintro e w1 ⟨rfl, rfl⟩ ; have fA : True := trivial ; have fB : True := trivial ; go_wp2_with (first | (have _f := fA; refine store1_sep rfl 34 (.tmp 12) (.tmp 11) rfl S0 0 rfl rfl rfl rfl (by kernel_rfl) rfl ?_; intro w2 S2 k2 s2; clear s2 fA _f; have S2' := S2.alloc #[.nilFunc] 51; have b2 := bel1 w2 (.cells #[.nilFunc] 51)) | (have _f := fB; refine store1_sep rfl 51 (.tmp 6) (.func 34) rfl S2' 0 rfl rfl rfl rfl (by kernel_rfl) rfl ?_; intro w3 S3 k3 s3; clear s3 fB _f; have B3 := imp_bel b0 k2 b2 k3)))
    refine wp_region_mix' [] [0, 1, 2, 3, 4, 5, 6, 7, 8, 9, 10, 11, 12] (by kernel_rfl) (by kernel_rfl) (fun _ _ d _ _ h => by cases d <;> exact h) ?_
    intro w5 hb5
    have S5 := S3.bel hb5
    have q2 := (S5.at 1 rfl).laterCellB (v := .slice none 0 0) 4 rfl
    ( refine mix_end ?_ ; simp only [pickOps, nth] ; (repeat (go_big_quiet_step (fail))) ; refine wpQuiet_nil ?_ ; have HS5 := Lib.hid S5 ; have HB5 := Lib.hid (bel_then B3 hb5) ; clear q2 S5 S3 S2 S2' S0 c4 hb5 k2 k3 b2 b0 B3)
    go_wp2_with (refine load_sep rfl 36 (.tmp 3) rfl HS5.out 1 rfl rfl Try.underlying36 rfl (by kernel_rfl) ?_)
    refine (nul_add (HN.out.bel HB5.out) Ty.none).mono ?_
    rintro e w6 ⟨rfl, hb6⟩
    have HB6 := Lib.hid (bel_then HB5.out hb6)
    clear hb6
    go_wp2_with fail
    go_ret2
    exact ⟨rfl, HB6.out⟩
  · ( go_enter Try.func14, Try.ntmps14 ; go_wp2_with (refine box_sep rfl 36 (.tmp 1) rfl (Sep.nil w) rfl (show Ty.none.val.cells = #[.int .i64 0, .int .i64 0, .int .i64 0, .int .i64 0, .slice none 0 0, .int .i64 0, .int .i64 0] from rfl) ?_; intro w0 S0 b0 s0; clear s0; have c4 : w0.cell? ⟨w.heap.size, 4, none⟩ = some (.slice none 0 0) := ((S0.at 0 rfl).cell 4).trans rfl) ; refine (clone_nil _).mono ?_ ; rintro e w1 ⟨rfl, rfl⟩ ; have fA : True := trivial ; have fB : True := trivial ; go_wp2_with (first | (have _f := fA; refine store1_sep rfl 34 (.tmp 12) (.tmp 11) rfl S0 0 rfl rfl rfl rfl (by kernel_rfl) rfl ?_; intro w2 S2 k2 s2; clear s2 fA _f; have S2' := S2.alloc #[.nilFunc] 51; have b2 := bel1 w2 (.cells #[.nilFunc] 51)) | (have _f := fB; refine store1_sep rfl 51 (.tmp 6) (.func 34) rfl S2' 0 rfl rfl rfl rfl (by kernel_rfl) rfl ?_; intro w3 S3 k3 s3; clear s3 fB _f; have B3 := imp_bel b0 k2 b2 k3; have d0 := (B3.cell (p := ⟨g, 0, none⟩) hl).trans c0; have d1 := (B3.cell (p := ⟨g, 1, none⟩) hl).trans c1; have hl3 := Nat.lt_of_lt_of_le hl B3.size)))
    refine wp_region_mix' [] [0, 1, 2, 3, 4, 5, 6, 7, 8, 9, 10, 11, 12] (by kernel_rfl) (by kernel_rfl) (fun _ _ d _ _ h => by cases d <;> exact h) ?_
    intro w5 hb5
    have S5 := S3.bel hb5
    have q2 := (S5.at 1 rfl).laterCellB (v := .slice none 0 0) 4 rfl
    have q3 := later_cell (p := ⟨g, 1, none⟩) (Nat.lt_of_lt_of_le hl3 hb5.size) ((hb5.cell (p := ⟨g, 1, none⟩) hl3).trans d1)
    ( refine mix_end ?_ ; simp only [pickOps, nth] ; (repeat (go_big_quiet_step (fail))) ; refine wpQuiet_nil ?_ ; have HS5 := Lib.hid S5 ; have HB5 := Lib.hid (bel_then B3 hb5) ; clear q2 S5 S3 S2 S2' S0 c4 hb5 k2 k3 b2 b0 B3)
    clear q3
    go_wp2_with (refine load_sep rfl 36 (.tmp 3) rfl HS5.out 1 rfl rfl Try.underlying36 rfl (by kernel_rfl) ?_)
    refine (nul_add (HN.out.bel HB5.out) Ty.none).mono ?_
    rintro e w6 ⟨rfl, hb6⟩
    have HB6 := Lib.hid (bel_then HB5.out hb6)
    clear hb6
    go_wp2_with fail
    go_ret2
    exact ⟨rfl, HB6.out⟩

end Go.Proofs.Ytbppoegdmmflmaa
