/- The statement IsaReads, walked. -/
import Derived.Test.YtmnmbpenonodiaaDoorIsaKnown
import Derived.Test.YtmnmbpenonodiaaDoorRefOf
namespace Go.Proofs.YtmnmbpenonodiaaDoor
set_option linter.unusedVariables false
set_option linter.unusedSimpArgs false
open Go.RowKit

theorem zero_ok : Ins.zero.Ok := by constructor <;> decide

set_option maxRecDepth 20000 in
set_option maxHeartbeats 4000000 in
theorem reads_law (x : Int) (w : World) (hL : Laid w) (hx : 0 ≤ x ∧ x < 4294967296) :
    Calls Tryd.prog 5 #[.int .u32 x] w fun e w' => e = .returned (.bool true) ∧ Below w.heap.size w w' := by
  have HL := Lib.hid hL
  by_cases hg : good (flds x) = true
  · obtain ⟨hm, _⟩ := of_word hx hg
    have h1 : ∀ w, Calls Tryd.prog 15 #[.int .u32 x] w (OfIs (flds x) w) := fun w => of_walk x w hx _ rfl
    have h2 : ∀ w, Calls Tryd.prog 16 #[.int .u32 x] w (RefOfIs x w) := fun w => refof_walk x w hx
    unfold OfIs at h1
    unfold RefOfIs at h2
    simp only [hg, if_true] at h1 h2
    have HO := Lib.hid hm.ok
    generalize flds x = i at h1 h2 HO
    have HI := Lib.hid h1
    have HR := Lib.hid h2
    clear h1 h2 hm hg hx hL
    go_enter Tryd.func5, Tryd.ntmps5
    go_wp2_with fail
    refine (HI.out _).mono ?_
    ( rintro e w1 ⟨rfl, hb⟩ ; have B1 := Lib.hid hb ; have S1 := Sep.nil w1 ; clear hb ; go_wp2_with (first | (refine alloc_sep rfl 29 rfl S1 (z := Ins.zero.val) (cs := Ins.zero.cells) (by kernel_rfl) rfl ?_; intro w2 S2 b2 s2; have B2 := Lib.hid (bel_then B1.out b2); have g2 : w1.heap.size < w2.heap.size := (by omega); clear S1 b2 s2) | (refine store_sep rfl 29 (.tmp 3) (.tmp 10) rfl S2 0 rfl rfl rfl rfl (by kernel_rfl) rfl ?_; intro w3 S3 k3 s3; have B3 := Lib.hid (bel_keG B2.out k3 (by intro i hi; have := B1.out.size; omega)); have g3 : w1.heap.size < w3.heap.size := (by omega); clear S2 k3 s3 g2)) ; refine (HR.out _).mono ?_ ; rintro e w4 ⟨rfl, hb⟩ ; have B4 := Lib.hid (bel_then B3.out hb) ; have S4 := S3.bel hb ; have g4 : w1.heap.size < w4.heap.size := Nat.lt_of_lt_of_le g3 hb.size ; clear hb S3 g3 ; go_wp2_with (first | (refine alloc_sep rfl 29 rfl S4 (z := Ins.zero.val) (cs := Ins.zero.cells) (by kernel_rfl) rfl ?_; intro w5 S5 b5 s5; have B5 := Lib.hid (bel_then B4.out b5); clear S4 b5 s5) | (refine store_sep rfl 29 (.tmp 5) (.tmp 15) rfl S5 0 rfl rfl rfl rfl (by kernel_rfl) rfl ?_; intro w6 S6 k6 s6; have B6 := Lib.hid (bel_keG B5.out k6 (by intro i hi; have := B4.out.size; omega)); clear S5 k6 s6) | (refine load_sep rfl 29 (.tmp 3) rfl S6 1 rfl rfl Tryd.underlying29 rfl (by kernel_rfl) ?_) | (refine load_sep rfl 29 (.tmp 5) rfl S6 0 rfl rfl Tryd.underlying29 rfl (by kernel_rfl) ?_) | (refine eql_ins rfl (.tmp 17) (.tmp 18) rfl _ _ HO.out HO.out rfl rfl true (by simp) ?_)) ; refine (num_walk _ _).mono ?_ ; rintro e w' ⟨rfl, rfl⟩ ; go_wp2_with fail)
    ( refine (known_walk _ (HL.out.bel B6.out)).mono ?_ ; rintro e w7 ⟨rfl, hb⟩ ; have B7 := Lib.hid (bel_then B6.out hb) ; clear hb ; go_wp2_with fail ; go_ret ; exact ⟨rfl, B7.out⟩)
  · have hg : good (flds x) = false := by cases h : good (flds x); rfl; exact (hg h).elim
    have h1 : ∀ w, Calls Tryd.prog 15 #[.int .u32 x] w (OfIs (flds x) w) := fun w => of_walk x w hx _ rfl
    have h2 : ∀ w, Calls Tryd.prog 16 #[.int .u32 x] w (RefOfIs x w) := fun w => refof_walk x w hx
    unfold OfIs at h1
    unfold RefOfIs at h2
    simp only [hg, if_false] at h1 h2
    have HO := Lib.hid zero_ok
    have HI := Lib.hid h1
    have HR := Lib.hid h2
    clear h1 h2 hg hx hL
    go_enter Tryd.func5, Tryd.ntmps5
    go_wp2_with fail
    refine (HI.out _).mono ?_
    ( rintro e w1 ⟨rfl, hb⟩ ; have B1 := Lib.hid hb ; have S1 := Sep.nil w1 ; clear hb ; go_wp2_with (first | (refine alloc_sep rfl 29 rfl S1 (z := Ins.zero.val) (cs := Ins.zero.cells) (by kernel_rfl) rfl ?_; intro w2 S2 b2 s2; have B2 := Lib.hid (bel_then B1.out b2); have g2 : w1.heap.size < w2.heap.size := (by omega); clear S1 b2 s2) | (refine store_sep rfl 29 (.tmp 3) (.tmp 10) rfl S2 0 rfl rfl rfl rfl (by kernel_rfl) rfl ?_; intro w3 S3 k3 s3; have B3 := Lib.hid (bel_keG B2.out k3 (by intro i hi; have := B1.out.size; omega)); have g3 : w1.heap.size < w3.heap.size := (by omega); clear S2 k3 s3 g2)) ; refine (HR.out _).mono ?_ ; rintro e w4 ⟨rfl, hb⟩ ; have B4 := Lib.hid (bel_then B3.out hb) ; have S4 := S3.bel hb ; have g4 : w1.heap.size < w4.heap.size := Nat.lt_of_lt_of_le g3 hb.size ; clear hb S3 g3 ; go_wp2_with (first | (refine alloc_sep rfl 29 rfl S4 (z := Ins.zero.val) (cs := Ins.zero.cells) (by kernel_rfl) rfl ?_; intro w5 S5 b5 s5; have B5 := Lib.hid (bel_then B4.out b5); clear S4 b5 s5) | (refine store_sep rfl 29 (.tmp 5) (.tmp 15) rfl S5 0 rfl rfl rfl rfl (by kernel_rfl) rfl ?_; intro w6 S6 k6 s6; have B6 := Lib.hid (bel_keG B5.out k6 (by intro i hi; have := B4.out.size; omega)); clear S5 k6 s6) | (refine load_sep rfl 29 (.tmp 3) rfl S6 1 rfl rfl Tryd.underlying29 rfl (by kernel_rfl) ?_) | (refine load_sep rfl 29 (.tmp 5) rfl S6 0 rfl rfl Tryd.underlying29 rfl (by kernel_rfl) ?_) | (refine eql_ins rfl (.tmp 17) (.tmp 18) rfl _ _ HO.out HO.out rfl rfl true (by simp) ?_)) ; refine (num_walk _ _).mono ?_ ; rintro e w' ⟨rfl, rfl⟩ ; go_wp2_with fail)
    refine (num_walk _ _).mono ?_
    rintro e w' ⟨rfl, rfl⟩
    go_wp2_with fail
    ( refine (known_walk _ (HL.out.bel B6.out)).mono ?_ ; rintro e w7 ⟨rfl, hb⟩ ; have B7 := Lib.hid (bel_then B6.out hb) ; clear hb ; go_wp2_with fail ; go_ret ; exact ⟨rfl, B7.out⟩)

end Go.Proofs.YtmnmbpenonodiaaDoor
