/- The law's num, is and known; isa.Word at an instruction that may be. -/
import Derived.Test.YtmnmbpenonodiaaDoorIsaMay
import Derived.Test.YtmnmbpenonodiaaDoorIsaText2
namespace Go.Proofs.YtmnmbpenonodiaaDoor
set_option linter.unusedVariables false
set_option linter.unusedSimpArgs false
open Go.RowKit

theorem num_walk (n : Int) (w : World) : Calls Tryd.prog 17 #[.int .i64 n] w fun e w' => e = .returned (.int .i64 n) ∧ w = w' := by
  go_enter Tryd.func17, Tryd.ntmps17
  go_wp2
  go_ret
  exact ⟨rfl, rfl⟩

set_option maxHeartbeats 2000000 in
theorem isaword_walk (i : Ins) (w : World) (h : i.May) : Calls Tryd.prog 18 #[i.val] w fun e w' => e = .returned (.tuple #[.int .u32 (wordR i), .int .i64 0]) ∧ Below w.heap.size w w' := by
  have HM := Lib.hid h
  have H0 := (Sep.nil w).alloc i.cells 29
  have B0 := Lib.hid (bel1 w (.cells i.cells 29))
  clear h
  go_enter Tryd.func18, Tryd.ntmps18
  go_wp2_with (refine load_sep rfl 29 (.tmp 1) rfl H0 0 rfl rfl Tryd.underlying29 rfl (by kernel_rfl) ?_)
  refine (may_walk i _ HM.out).mono ?_
  rintro e w1 ⟨rfl, hb⟩
  have H1 := H0.bel hb
  have B1 := Lib.hid (bel_then B0.out hb)
  clear hb
  go_wp2_with (refine load_sep rfl 29 (.tmp 1) rfl H1 0 rfl rfl Tryd.underlying29 rfl (by kernel_rfl) ?_)
  refine (pack_walk i _ HM.out).mono ?_
  rintro e w2 ⟨rfl, hb⟩
  have B2 := Lib.hid (bel_then B1.out hb)
  clear hb
  go_wp2_with fail
  go_ret2
  exact ⟨rfl, B2.out⟩

set_option maxHeartbeats 2000000 in
theorem is_walk (i : Ins) (x : Int) (t : ByteArray) (w : World) (hL : Laid w) (h : i.May) (hx : wordR i = x)
    (ht : ∀ w, Laid w → Calls Tryd.prog 20 #[i.val] w fun e w' => e = .returned (.tuple #[.string t, .int .i64 0]) ∧ Below w.heap.size w w') :
    Calls Tryd.prog 22 #[i.val, .int .u32 x, .string t] w fun e w' => e = .returned (.bool true) ∧ Below w.heap.size w w' := by
  subst hx
  have HM := Lib.hid h
  have HL := Lib.hid hL
  have HT := Lib.hid ht
  have H0 := (Sep.nil w).alloc i.cells 29
  have B0 := Lib.hid (bel1 w (.cells i.cells 29))
  clear h hL ht
  go_enter Tryd.func22, Tryd.ntmps22
  go_wp2_with (refine load_sep rfl 29 (.tmp 3) rfl H0 0 rfl rfl Tryd.underlying29 rfl (by kernel_rfl) ?_)
  refine (isaword_walk i _ HM.out).mono ?_
  rintro e w1 ⟨rfl, hb⟩
  have H1 := H0.bel hb
  have B1 := Lib.hid (bel_then B0.out hb)
  clear hb
  go_wp2_with (refine load_sep rfl 29 (.tmp 3) rfl H1 0 rfl rfl Tryd.underlying29 rfl (by kernel_rfl) ?_)
  refine (HT.out _ (HL.out.bel B1.out)).mono ?_
  rintro e w2 ⟨rfl, hb⟩
  have B2 := Lib.hid (bel_then B1.out hb)
  clear hb
  go_wp2_with fail
  refine (num_walk _ _).mono ?_
  rintro e w' ⟨rfl, rfl⟩
  go_wp2_with fail
  refine (num_walk _ _).mono ?_
  rintro e w' ⟨rfl, rfl⟩
  go_wp2_with fail
  go_ret
  exact ⟨rfl, B2.out⟩

theorem may_i1 : i1.May := by constructor <;> decide
theorem may_i2 : i2.May := by constructor <;> decide
theorem may_i3 : i3.May := by constructor <;> decide
theorem w_i1 : wordR i1 = 1093140485 := by kernel_rfl
theorem w_i2 : wordR i2 = 4160749567 := by kernel_rfl
theorem w_i3 : wordR i3 = 3607101708 := by kernel_rfl

set_option maxHeartbeats 2000000 in
theorem known_walk (w : World) (hL : Laid w) : Calls Tryd.prog 12 #[] w fun e w' => e = .returned (.bool true) ∧ Below w.heap.size w w' := by
  have HL := Lib.hid hL
  clear hL
  go_enter Tryd.func12, Tryd.ntmps12
  go_wp2_with fail
  refine (is_walk i1 1093140485 _ _ HL.out may_i1 w_i1 (fun w h => text_1 w h (fun w => may_walk i1 w may_i1))).mono ?_
  rintro e w1 ⟨rfl, hb⟩
  have B1 := Lib.hid hb
  clear hb
  go_wp2_with fail
  refine (is_walk i2 4160749567 _ _ (HL.out.bel B1.out) may_i2 w_i2 (fun w h => text_2 w h (fun w => may_walk i2 w may_i2))).mono ?_
  rintro e w2 ⟨rfl, hb⟩
  have B2 := Lib.hid (bel_then B1.out hb)
  clear hb
  go_wp2_with fail
  refine (is_walk i3 3607101708 _ _ (HL.out.bel B2.out) may_i3 w_i3 (fun w h => text_3 w h (fun w => may_walk i3 w may_i3))).mono ?_
  rintro e w3 ⟨rfl, hb⟩
  have B3 := Lib.hid (bel_then B2.out hb)
  clear hb
  go_wp2_with fail
  go_ret
  exact ⟨rfl, B3.out⟩

end Go.Proofs.YtmnmbpenonodiaaDoor
