/- The chapter's rows. -/
import Derived.Test.YtbppoegdmmflmaaTabEnd
namespace Go.Proofs.Ytbppoegdmmflmaa
set_option linter.unusedVariables false
set_option linter.unusedSimpArgs false
open Go.RowKit

def tab7 (t : Ty) : List Ty := [bas 0, bas 4, bas 1, bas 1, bas 1, bas 4, bas 4, t]

set_option maxRecDepth 20000 in
set_option maxHeartbeats 8000000 in
theorem known_walk (w : World) : Calls Try.prog 7 #[] w fun e w' => e = .returned (.bool true) ∧ Below w.heap.size w w' := by
  go_enter Try.func7, Try.ntmps7
  go_wp2_with fail
  refine (new_walk w).mono ?_
  rintro e w1 ⟨g, rfl, T1, hb1⟩
  have HT1 := Lib.hid T1
  have HB1 := Lib.hid hb1
  clear T1 hb1
  go_wp2_with fail
  refine (record_walk HT1.out HB1.out.size (by decide)).mono ?_
  rintro e w2 ⟨rfl, T2, hb2⟩
  have T2' : Tab w.heap.size w2 g (tab7 ⟨2, 0, 0, 0, none, 0, 0, 0, 0⟩) 0 [] := T2
  have HB2 := Lib.hid (HB1.out.trans hb2)
  have HP := Lib.hid (put_walk (r := 7) (y := 3) T2' HB2.out.size rfl (by decide) rfl rfl (by decide) 1 (F := []) ⟨rfl, .inl ⟨rfl, rfl, rfl⟩⟩ (by simp) (by decide) (by decide) (by decide) (by decide) (at' := 0) rfl (by decide))
  rw [show addN tab0 = 7 from rfl, show addE tab0 = 0 from rfl]
  clear T2 hb2 T2'
  go_wp2_with fail
  refine HP.out.mono ?_
  rintro e w3 ⟨f1, c1, x1, rfl, T3, F3, hb3⟩
  have T3' : Tab w.heap.size w3 g (tab7 ⟨2, 0, 0, 1, some ⟨f1, 0, none⟩, 1, c1, 0, 0⟩) 1 [(f1, x1, 48)] := T3
  have HB3 := Lib.hid (HB2.out.trans hb3)
  have HP2 := Lib.hid (put_walk (r := 7) (y := 1) T3' HB3.out.size rfl (by decide) rfl rfl (by decide) 2 (F := [⟨1, 0, 3⟩]) F3 (by simp) (by decide) (by decide) (show (0 : Int) ≤ 1 ∧ (1 : Int) ≤ 262144 from by decide) (by decide) (at' := 4) rfl (by decide))
  clear T3 hb3 T3' F3
  go_wp2_with fail
  refine HP2.out.mono ?_
  rintro e w4 ⟨f2, c2, x2, rfl, T4, F4, hb4⟩
  have T4' : Tab w.heap.size w4 g (tab7 ⟨2, 0, 0, 8, some ⟨f2, 0, none⟩, 2, c2, 0, 0⟩) 2 [(f2, x2, 48), (f1, x1, 48)] := T4
  have HB4 := Lib.hid (HB3.out.trans hb4)
  have HP3 := Lib.hid (put_walk (r := 7) (y := 3) T4' HB4.out.size rfl (by decide) rfl rfl (by decide) 3 (F := [⟨1, 0, 3⟩, ⟨2, 4, 1⟩]) F4 (by simp) (by decide) (by decide) (show (0 : Int) ≤ 8 ∧ (8 : Int) ≤ 262144 from by decide) (by decide) (at' := 8) rfl (by decide))
  clear T4 hb4 T4' F4
  go_wp2_with fail
  refine HP3.out.mono ?_
  rintro e w5 ⟨f3, c3, x3, rfl, T5, F5, hb5⟩
  have T5' : Tab w.heap.size w5 g (tab7 ⟨2, 0, 0, 9, some ⟨f3, 0, none⟩, 3, c3, 0, 0⟩) 3 [(f3, x3, 48), (f2, x2, 48), (f1, x1, 48)] := T5
  have HB5 := Lib.hid (HB4.out.trans hb5)
  have HE := Lib.hid (end_walk (r := 7) T5' HB5.out.size rfl (by decide) rfl (show (0 : Int) ≤ 9 ∧ (9 : Int) ≤ 262144 from by decide))
  have HF5 := Lib.hid F5
  clear T5 hb5 T5' F5
  go_wp2_with fail
  refine HE.out.mono ?_
  rintro e w6 ⟨rfl, T6, hb6⟩
  have T6' : Tab w.heap.size w6 g (tab7 ⟨2, 0, 0, 12, some ⟨f3, 0, none⟩, 3, c3, 0, 0⟩) 3 [(f3, x3, 48), (f2, x2, 48), (f1, x1, 48)] := T6
  have HB6 := Lib.hid (HB5.out.trans hb6)
  have HG := Lib.hid (get_walk (r := 7) T6' rfl (by decide) (F := [⟨1, 0, 3⟩, ⟨2, 4, 1⟩, ⟨3, 8, 3⟩]) HF5.out (by decide))
  clear T6 hb6 T6'
  go_wp2_with fail
  refine HG.out.mono ?_
  rintro e w7 ⟨a', c', rfl, hrd, hb7⟩
  obtain ⟨b, o, h1, h2⟩ := hrd.at'
  obtain ⟨rfl, hbl⟩ := h1 (by decide)
  have d1 := h2 1 (.int .i64 0) rfl
  have d2 := h2 4 (.int .i64 4) rfl
  have d3 := h2 7 (.int .i64 8) rfl
  have HB7 := Lib.hid (HB6.out.trans (hb7.mono HB6.out.size))
  have S8 := Lib.hid ((Sep.nil w7).alloc Ty.none.cells.toArray 36)
  have B8 := Lib.hid (bel1 w7 (.cells Ty.none.cells.toArray 36))
  clear hrd h1 h2 hb7
  go_wp2_with (refine store_sep rfl 36 (.tmp 8) (.tmp 32) rfl S8.out 0 rfl rfl rfl (by kernel_rfl) rfl ?_ ?_; rfl; intro w9 S9 k9 s9; clear s9; have B9 := B8.out.trans (Below.ofKe k9 (fun i e => Nat.le_of_eq e.symm) B8.out.size); have e1 := (B9.cell (p := ⟨b, _, none⟩) hbl).trans d1; have e2 := (B9.cell (p := ⟨b, _, none⟩) hbl).trans d2; have e3 := (B9.cell (p := ⟨b, _, none⟩) hbl).trans d3; have c4 : w9.cell? ⟨w7.heap.size, 4, none⟩ = some (.slice (some ⟨b, o, none⟩) 3 c') := ((S9.at 0 rfl).cell 4).trans rfl; have c3 : w9.cell? ⟨w7.heap.size, 3, none⟩ = some (.int .i64 12) := ((S9.at 0 rfl).cell 3).trans rfl)
  go_ret
  exact ⟨rfl, HB7.out.trans (B9.mono HB7.out.size)⟩

end Go.Proofs.Ytbppoegdmmflmaa
