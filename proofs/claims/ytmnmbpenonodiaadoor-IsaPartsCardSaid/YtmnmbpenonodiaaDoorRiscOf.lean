/- Contract of isa.Of. -/
import Derived.Test.YtmnmbpenonodiaaDoorRiscIsa
import Derived.Test.YtmnmbpenonodiaaDoorRiscCells
import Derived.Test.YtmnmbpenonodiaaDoorSep
namespace Go.Proofs.YtmnmbpenonodiaaDoor
set_option linter.unusedVariables false
set_option linter.unusedSimpArgs false
open Go.RowKit

def good (i : Ins) : Bool :=
  if i.form = 0 then !i.v && decide (i.c < 16) && decide (i.op ≤ 11) && mayOp i
  else if i.form = 1 then decide (i.op ≤ 11) && mayOp i
  else if i.form = 5 then decide (i.c < 16)
  else if i.form = 6 then decide (i.n < 256) else true
def Ins.zero : Ins := ⟨0, false, false, 0, 0, 0, 0, 0, 0, 0, 0⟩
def Ins.cells (i : Ins) : Array Value := #[.int .i64 i.form, .bool i.u, .bool i.v, .int .i64 i.a, .int .i64 i.b, .int .i64 i.c, .int .i64 i.op, .int .i64 i.im, .int .i64 i.off, .int .i64 i.cond, .int .i64 i.n]
def OfIs (i : Ins) (w : World) (e : Ending) (w' : World) : Prop := e = .returned (.tuple #[(if good i then i.val else Ins.zero.val), .int .i64 (if good i then 0 else 4)]) ∧ Below w.heap.size w w'

theorem res_of {w w' : World} {i : Ins} {e : Ending} {g : Bool} (hg : good i = g) (he : e = .returned (.tuple #[(if g then i.val else Ins.zero.val), .int .i64 (if g then 0 else 4)])) (hb : Below w.heap.size w w') : OfIs i w e w' := by
  subst hg; exact ⟨he, hb⟩

set_option maxHeartbeats 4000000 in
theorem of_walk (x : Int) (w : World) (hx : 0 ≤ x ∧ x < 4294967296) (i : Ins) (hi : i = flds x) : Calls Tryd.prog 15 #[.int .u32 x] w (OfIs i w) := by
  have HI := Lib.hid hi
  clear hi
  obtain ⟨form, u, v, a, b, c, op, im, off, cond, n⟩ := i
  by_cases h0 : form = 0
  · subst h0
    cases v
    · by_cases hc : c < 16
      · by_cases ho : op ≤ 11
        · obtain ⟨m, hm⟩ : ∃ m, m = mayOp ⟨0, u, false, a, b, c, op, im, off, cond, n⟩ := ⟨_, rfl⟩
          have HR : Hid (good ⟨0, u, false, a, b, c, op, im, off, cond, n⟩ = m) := by unfold Hid; simp [good, hc, ho, hm]
          have HM := Lib.hid hm
          clear hm
          ( go_enter Tryd.func15, Tryd.ntmps15 ; go_wp2_with fail ; refine (flds_walk x _ hx).mono ?_ ; rw [← HI.out] ; rintro e w1 ⟨rfl, hb1⟩ ; have H1 := (((Sep.nil w).alloc Ins.zero.cells 29).bel hb1).alloc (Ins.cells ⟨0, u, false, a, b, c, op, im, off, cond, n⟩) 29 ; have kk := bel_then (bel_then ((Below.refl w.heap.size w).alloc (Nat.le_refl _) (.cells Ins.zero.cells 29)) hb1) ((Below.refl w1.heap.size w1).alloc (Nat.le_refl _) (.cells (Ins.cells ⟨0, u, false, a, b, c, op, im, off, cond, n⟩) 29)) ; have KK := Lib.hid kk ; clear kk)
          ( go_wp2_with fail ; refine (mayop ⟨0, u, false, a, b, c, op, im, off, cond, n⟩ _).mono ?_ ; rw [← HM.out] ; rintro e w2 ⟨rfl, hb2⟩ ; have H3 := H1.bel hb2 ; have KK2 := Lib.hid (bel_then KK.out hb2))
          cases m
          all_goals
            ( go_wp2_with (first | (refine load_sep rfl 29 _ rfl H3 0 rfl rfl Tryd.underlying29 rfl (by kernel_rfl) ?_) | (refine store_sep rfl 29 _ _ rfl H3 1 rfl rfl rfl (by kernel_rfl) rfl rfl ?_; intro w3 H4 k4 s4)) ; refine bodyPost_ret (res_cell_tmp rfl rfl (H4.at 1 rfl) Tryd.underlying29 rfl (by kernel_rfl)) rfl (res_of HR.out rfl ?_) ; exact (Ke.below Non KK2.out).trans' k4 (fun i hi hh => by subst hh; omega) |>.non)
        · have HR : Hid (good ⟨0, u, false, a, b, c, op, im, off, cond, n⟩ = false) := by unfold Hid; simp [good, hc, ho]
          ( ( go_enter Tryd.func15, Tryd.ntmps15 ; go_wp2_with fail ; refine (flds_walk x _ hx).mono ?_ ; rw [← HI.out] ; rintro e w1 ⟨rfl, hb1⟩ ; have H1 := (((Sep.nil w).alloc Ins.zero.cells 29).bel hb1).alloc (Ins.cells ⟨0, u, false, a, b, c, op, im, off, cond, n⟩) 29 ; have kk := bel_then (bel_then ((Below.refl w.heap.size w).alloc (Nat.le_refl _) (.cells Ins.zero.cells 29)) hb1) ((Below.refl w1.heap.size w1).alloc (Nat.le_refl _) (.cells (Ins.cells ⟨0, u, false, a, b, c, op, im, off, cond, n⟩) 29)) ; have KK := Lib.hid kk ; clear kk) ; have H3 := H1 ; have KK2 := KK ; ( go_wp2_with (first | (refine load_sep rfl 29 _ rfl H3 0 rfl rfl Tryd.underlying29 rfl (by kernel_rfl) ?_) | (refine store_sep rfl 29 _ _ rfl H3 1 rfl rfl rfl (by kernel_rfl) rfl rfl ?_; intro w3 H4 k4 s4)) ; refine bodyPost_ret (res_cell_tmp rfl rfl (H4.at 1 rfl) Tryd.underlying29 rfl (by kernel_rfl)) rfl (res_of HR.out rfl ?_) ; exact (Ke.below Non KK2.out).trans' k4 (fun i hi hh => by subst hh; omega) |>.non))
      · have HR : Hid (good ⟨0, u, false, a, b, c, op, im, off, cond, n⟩ = false) := by unfold Hid; simp [good, hc]
        ( ( go_enter Tryd.func15, Tryd.ntmps15 ; go_wp2_with fail ; refine (flds_walk x _ hx).mono ?_ ; rw [← HI.out] ; rintro e w1 ⟨rfl, hb1⟩ ; have H1 := (((Sep.nil w).alloc Ins.zero.cells 29).bel hb1).alloc (Ins.cells ⟨0, u, false, a, b, c, op, im, off, cond, n⟩) 29 ; have kk := bel_then (bel_then ((Below.refl w.heap.size w).alloc (Nat.le_refl _) (.cells Ins.zero.cells 29)) hb1) ((Below.refl w1.heap.size w1).alloc (Nat.le_refl _) (.cells (Ins.cells ⟨0, u, false, a, b, c, op, im, off, cond, n⟩) 29)) ; have KK := Lib.hid kk ; clear kk) ; have H3 := H1 ; have KK2 := KK ; ( go_wp2_with (first | (refine load_sep rfl 29 _ rfl H3 0 rfl rfl Tryd.underlying29 rfl (by kernel_rfl) ?_) | (refine store_sep rfl 29 _ _ rfl H3 1 rfl rfl rfl (by kernel_rfl) rfl rfl ?_; intro w3 H4 k4 s4)) ; refine bodyPost_ret (res_cell_tmp rfl rfl (H4.at 1 rfl) Tryd.underlying29 rfl (by kernel_rfl)) rfl (res_of HR.out rfl ?_) ; exact (Ke.below Non KK2.out).trans' k4 (fun i hi hh => by subst hh; omega) |>.non))
    · have HR : Hid (good ⟨0, u, true, a, b, c, op, im, off, cond, n⟩ = false) := by unfold Hid; simp [good]
      ( ( go_enter Tryd.func15, Tryd.ntmps15 ; go_wp2_with fail ; refine (flds_walk x _ hx).mono ?_ ; rw [← HI.out] ; rintro e w1 ⟨rfl, hb1⟩ ; have H1 := (((Sep.nil w).alloc Ins.zero.cells 29).bel hb1).alloc (Ins.cells ⟨0, u, true, a, b, c, op, im, off, cond, n⟩) 29 ; have kk := bel_then (bel_then ((Below.refl w.heap.size w).alloc (Nat.le_refl _) (.cells Ins.zero.cells 29)) hb1) ((Below.refl w1.heap.size w1).alloc (Nat.le_refl _) (.cells (Ins.cells ⟨0, u, true, a, b, c, op, im, off, cond, n⟩) 29)) ; have KK := Lib.hid kk ; clear kk) ; have H3 := H1 ; have KK2 := KK ; ( go_wp2_with (first | (refine load_sep rfl 29 _ rfl H3 0 rfl rfl Tryd.underlying29 rfl (by kernel_rfl) ?_) | (refine store_sep rfl 29 _ _ rfl H3 1 rfl rfl rfl (by kernel_rfl) rfl rfl ?_; intro w3 H4 k4 s4)) ; refine bodyPost_ret (res_cell_tmp rfl rfl (H4.at 1 rfl) Tryd.underlying29 rfl (by kernel_rfl)) rfl (res_of HR.out rfl ?_) ; exact (Ke.below Non KK2.out).trans' k4 (fun i hi hh => by subst hh; omega) |>.non))
  · by_cases h1 : form = 1
    · subst h1
      clear h0
      by_cases ho : op ≤ 11
      · obtain ⟨m, hm⟩ : ∃ m, m = mayOp ⟨1, u, v, a, b, c, op, im, off, cond, n⟩ := ⟨_, rfl⟩
        have HR : Hid (good ⟨1, u, v, a, b, c, op, im, off, cond, n⟩ = m) := by unfold Hid; simp [good, ho, hm]
        have HM := Lib.hid hm
        clear hm
        ( go_enter Tryd.func15, Tryd.ntmps15 ; go_wp2_with fail ; refine (flds_walk x _ hx).mono ?_ ; rw [← HI.out] ; rintro e w1 ⟨rfl, hb1⟩ ; have H1 := (((Sep.nil w).alloc Ins.zero.cells 29).bel hb1).alloc (Ins.cells ⟨1, u, v, a, b, c, op, im, off, cond, n⟩) 29 ; have kk := bel_then (bel_then ((Below.refl w.heap.size w).alloc (Nat.le_refl _) (.cells Ins.zero.cells 29)) hb1) ((Below.refl w1.heap.size w1).alloc (Nat.le_refl _) (.cells (Ins.cells ⟨1, u, v, a, b, c, op, im, off, cond, n⟩) 29)) ; have KK := Lib.hid kk ; clear kk)
        ( go_wp2_with fail ; refine (mayop ⟨1, u, v, a, b, c, op, im, off, cond, n⟩ _).mono ?_ ; rw [← HM.out] ; rintro e w2 ⟨rfl, hb2⟩ ; have H3 := H1.bel hb2 ; have KK2 := Lib.hid (bel_then KK.out hb2))
        cases m
        all_goals
          ( go_wp2_with (first | (refine load_sep rfl 29 _ rfl H3 0 rfl rfl Tryd.underlying29 rfl (by kernel_rfl) ?_) | (refine store_sep rfl 29 _ _ rfl H3 1 rfl rfl rfl (by kernel_rfl) rfl rfl ?_; intro w3 H4 k4 s4)) ; refine bodyPost_ret (res_cell_tmp rfl rfl (H4.at 1 rfl) Tryd.underlying29 rfl (by kernel_rfl)) rfl (res_of HR.out rfl ?_) ; exact (Ke.below Non KK2.out).trans' k4 (fun i hi hh => by subst hh; omega) |>.non)
      · have HR : Hid (good ⟨1, u, v, a, b, c, op, im, off, cond, n⟩ = false) := by unfold Hid; simp [good, ho]
        ( ( go_enter Tryd.func15, Tryd.ntmps15 ; go_wp2_with fail ; refine (flds_walk x _ hx).mono ?_ ; rw [← HI.out] ; rintro e w1 ⟨rfl, hb1⟩ ; have H1 := (((Sep.nil w).alloc Ins.zero.cells 29).bel hb1).alloc (Ins.cells ⟨1, u, v, a, b, c, op, im, off, cond, n⟩) 29 ; have kk := bel_then (bel_then ((Below.refl w.heap.size w).alloc (Nat.le_refl _) (.cells Ins.zero.cells 29)) hb1) ((Below.refl w1.heap.size w1).alloc (Nat.le_refl _) (.cells (Ins.cells ⟨1, u, v, a, b, c, op, im, off, cond, n⟩) 29)) ; have KK := Lib.hid kk ; clear kk) ; have H3 := H1 ; have KK2 := KK ; ( go_wp2_with (first | (refine load_sep rfl 29 _ rfl H3 0 rfl rfl Tryd.underlying29 rfl (by kernel_rfl) ?_) | (refine store_sep rfl 29 _ _ rfl H3 1 rfl rfl rfl (by kernel_rfl) rfl rfl ?_; intro w3 H4 k4 s4)) ; refine bodyPost_ret (res_cell_tmp rfl rfl (H4.at 1 rfl) Tryd.underlying29 rfl (by kernel_rfl)) rfl (res_of HR.out rfl ?_) ; exact (Ke.below Non KK2.out).trans' k4 (fun i hi hh => by subst hh; omega) |>.non))
    · by_cases h5 : form = 5
      · subst h5
        clear h0 h1
        by_cases hc : c < 16
        · have HR : Hid (good ⟨5, u, v, a, b, c, op, im, off, cond, n⟩ = true) := by unfold Hid; simp [good, hc]
          have hd : decide (c < 16) = true := by simp [hc]
          ( ( go_enter Tryd.func15, Tryd.ntmps15 ; go_wp2_with fail ; refine (flds_walk x _ hx).mono ?_ ; rw [← HI.out] ; rintro e w1 ⟨rfl, hb1⟩ ; have H1 := (((Sep.nil w).alloc Ins.zero.cells 29).bel hb1).alloc (Ins.cells ⟨5, u, v, a, b, c, op, im, off, cond, n⟩) 29 ; have kk := bel_then (bel_then ((Below.refl w.heap.size w).alloc (Nat.le_refl _) (.cells Ins.zero.cells 29)) hb1) ((Below.refl w1.heap.size w1).alloc (Nat.le_refl _) (.cells (Ins.cells ⟨5, u, v, a, b, c, op, im, off, cond, n⟩) 29)) ; have KK := Lib.hid kk ; clear kk) ; have H3 := H1 ; have KK2 := KK ; ( go_wp2_with (first | (refine load_sep rfl 29 _ rfl H3 0 rfl rfl Tryd.underlying29 rfl (by kernel_rfl) ?_) | (refine store_sep rfl 29 _ _ rfl H3 1 rfl rfl rfl (by kernel_rfl) rfl rfl ?_; intro w3 H4 k4 s4)) ; refine bodyPost_ret (res_cell_tmp rfl rfl (H4.at 1 rfl) Tryd.underlying29 rfl (by kernel_rfl)) rfl (res_of HR.out rfl ?_) ; exact (Ke.below Non KK2.out).trans' k4 (fun i hi hh => by subst hh; omega) |>.non))
        · have HR : Hid (good ⟨5, u, v, a, b, c, op, im, off, cond, n⟩ = false) := by unfold Hid; simp [good, hc]
          have hd : decide (c < 16) = false := by simp; omega
          ( ( go_enter Tryd.func15, Tryd.ntmps15 ; go_wp2_with fail ; refine (flds_walk x _ hx).mono ?_ ; rw [← HI.out] ; rintro e w1 ⟨rfl, hb1⟩ ; have H1 := (((Sep.nil w).alloc Ins.zero.cells 29).bel hb1).alloc (Ins.cells ⟨5, u, v, a, b, c, op, im, off, cond, n⟩) 29 ; have kk := bel_then (bel_then ((Below.refl w.heap.size w).alloc (Nat.le_refl _) (.cells Ins.zero.cells 29)) hb1) ((Below.refl w1.heap.size w1).alloc (Nat.le_refl _) (.cells (Ins.cells ⟨5, u, v, a, b, c, op, im, off, cond, n⟩) 29)) ; have KK := Lib.hid kk ; clear kk) ; have H3 := H1 ; have KK2 := KK ; ( go_wp2_with (first | (refine load_sep rfl 29 _ rfl H3 0 rfl rfl Tryd.underlying29 rfl (by kernel_rfl) ?_) | (refine store_sep rfl 29 _ _ rfl H3 1 rfl rfl rfl (by kernel_rfl) rfl rfl ?_; intro w3 H4 k4 s4)) ; refine bodyPost_ret (res_cell_tmp rfl rfl (H4.at 1 rfl) Tryd.underlying29 rfl (by kernel_rfl)) rfl (res_of HR.out rfl ?_) ; exact (Ke.below Non KK2.out).trans' k4 (fun i hi hh => by subst hh; omega) |>.non))
      · by_cases h6 : form = 6
        · subst h6
          clear h0 h1 h5
          by_cases hn : n < 256
          · have HR : Hid (good ⟨6, u, v, a, b, c, op, im, off, cond, n⟩ = true) := by unfold Hid; simp [good, hn]
            have hd : decide (n < 256) = true := by simp [hn]
            ( ( go_enter Tryd.func15, Tryd.ntmps15 ; go_wp2_with fail ; refine (flds_walk x _ hx).mono ?_ ; rw [← HI.out] ; rintro e w1 ⟨rfl, hb1⟩ ; have H1 := (((Sep.nil w).alloc Ins.zero.cells 29).bel hb1).alloc (Ins.cells ⟨6, u, v, a, b, c, op, im, off, cond, n⟩) 29 ; have kk := bel_then (bel_then ((Below.refl w.heap.size w).alloc (Nat.le_refl _) (.cells Ins.zero.cells 29)) hb1) ((Below.refl w1.heap.size w1).alloc (Nat.le_refl _) (.cells (Ins.cells ⟨6, u, v, a, b, c, op, im, off, cond, n⟩) 29)) ; have KK := Lib.hid kk ; clear kk) ; have H3 := H1 ; have KK2 := KK ; ( go_wp2_with (first | (refine load_sep rfl 29 _ rfl H3 0 rfl rfl Tryd.underlying29 rfl (by kernel_rfl) ?_) | (refine store_sep rfl 29 _ _ rfl H3 1 rfl rfl rfl (by kernel_rfl) rfl rfl ?_; intro w3 H4 k4 s4)) ; refine bodyPost_ret (res_cell_tmp rfl rfl (H4.at 1 rfl) Tryd.underlying29 rfl (by kernel_rfl)) rfl (res_of HR.out rfl ?_) ; exact (Ke.below Non KK2.out).trans' k4 (fun i hi hh => by subst hh; omega) |>.non))
          · have HR : Hid (good ⟨6, u, v, a, b, c, op, im, off, cond, n⟩ = false) := by unfold Hid; simp [good, hn]
            have hd : decide (n < 256) = false := by simp; omega
            ( ( go_enter Tryd.func15, Tryd.ntmps15 ; go_wp2_with fail ; refine (flds_walk x _ hx).mono ?_ ; rw [← HI.out] ; rintro e w1 ⟨rfl, hb1⟩ ; have H1 := (((Sep.nil w).alloc Ins.zero.cells 29).bel hb1).alloc (Ins.cells ⟨6, u, v, a, b, c, op, im, off, cond, n⟩) 29 ; have kk := bel_then (bel_then ((Below.refl w.heap.size w).alloc (Nat.le_refl _) (.cells Ins.zero.cells 29)) hb1) ((Below.refl w1.heap.size w1).alloc (Nat.le_refl _) (.cells (Ins.cells ⟨6, u, v, a, b, c, op, im, off, cond, n⟩) 29)) ; have KK := Lib.hid kk ; clear kk) ; have H3 := H1 ; have KK2 := KK ; ( go_wp2_with (first | (refine load_sep rfl 29 _ rfl H3 0 rfl rfl Tryd.underlying29 rfl (by kernel_rfl) ?_) | (refine store_sep rfl 29 _ _ rfl H3 1 rfl rfl rfl (by kernel_rfl) rfl rfl ?_; intro w3 H4 k4 s4)) ; refine bodyPost_ret (res_cell_tmp rfl rfl (H4.at 1 rfl) Tryd.underlying29 rfl (by kernel_rfl)) rfl (res_of HR.out rfl ?_) ; exact (Ke.below Non KK2.out).trans' k4 (fun i hi hh => by subst hh; omega) |>.non))
        · have HR : Hid (good ⟨form, u, v, a, b, c, op, im, off, cond, n⟩ = true) := by unfold Hid; simp [good, h0, h1, h5, h6]
          ( ( go_enter Tryd.func15, Tryd.ntmps15 ; go_wp2_with fail ; refine (flds_walk x _ hx).mono ?_ ; rw [← HI.out] ; rintro e w1 ⟨rfl, hb1⟩ ; have H1 := (((Sep.nil w).alloc Ins.zero.cells 29).bel hb1).alloc (Ins.cells ⟨form, u, v, a, b, c, op, im, off, cond, n⟩) 29 ; have kk := bel_then (bel_then ((Below.refl w.heap.size w).alloc (Nat.le_refl _) (.cells Ins.zero.cells 29)) hb1) ((Below.refl w1.heap.size w1).alloc (Nat.le_refl _) (.cells (Ins.cells ⟨form, u, v, a, b, c, op, im, off, cond, n⟩) 29)) ; have KK := Lib.hid kk ; clear kk) ; have H3 := H1 ; have KK2 := KK ; ( go_wp2_with (first | (refine load_sep rfl 29 _ rfl H3 0 rfl rfl Tryd.underlying29 rfl (by kernel_rfl) ?_) | (refine store_sep rfl 29 _ _ rfl H3 1 rfl rfl rfl (by kernel_rfl) rfl rfl ?_; intro w3 H4 k4 s4)) ; refine bodyPost_ret (res_cell_tmp rfl rfl (H4.at 1 rfl) Tryd.underlying29 rfl (by kernel_rfl)) rfl (res_of HR.out rfl ?_) ; exact (Ke.below Non KK2.out).trans' k4 (fun i hi hh => by subst hh; omega) |>.non))

end Go.Proofs.YtmnmbpenonodiaaDoor
