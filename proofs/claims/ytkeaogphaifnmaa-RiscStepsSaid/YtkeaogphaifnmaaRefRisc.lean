/- Contracts: the reference's Flags, Set; risc.Loaded, Answered; the law's num. -/
import Derived.Test.YtkeaogphaifnmaaRiscStep3
namespace Go.Proofs.Ytkeaogphaifnmaa
set_option linter.unusedVariables false
set_option linter.unusedSimpArgs false
open Go.RowKit

set_option maxHeartbeats 4000000 in
theorem refflags_walk (c : Cpu) (w : World) : Calls Try.prog 24 #[c.val] w fun e w' => e = .returned (.int .u32 c.flags) ∧ Below w.heap.size w w' := by
  have h17 : c.cells[17]? = some (.bool c.n) := rfl
  have h18 : c.cells[18]? = some (.bool c.z) := rfl
  have h19 : c.cells[19]? = some (.bool c.c) := rfl
  have h20 : c.cells[20]? = some (.bool c.v) := rfl
  cases hn : c.n <;> cases hz : c.z <;> cases hc : c.c <;> cases hv : c.v
  all_goals
    rw [hn] at h17
    rw [hz] at h18
    rw [hc] at h19
    rw [hv] at h20
    have F : Hid (c.n = _ ∧ c.z = _ ∧ c.c = _ ∧ c.v = _) := ⟨hn, hz, hc, hv⟩
    clear hn hz hc hv
    go_enter Try.func24, Try.ntmps24
    go_wp2
    go_ret
    exact ⟨ret_int (by obtain ⟨a1, a2, a3, a4⟩ := F.out; simp [Cpu.flags, flagsTo, Cpu.flag, bn, a1, a2, a3, a4]), (Below.refl _ _).alloc (Nat.le_refl _) _⟩

theorem num_walk (n : Int) (w : World) : Calls Try.prog 25 #[.int .i64 n] w fun e w' => e = .returned (.int .i64 n) ∧ w = w' := by
  go_enter Try.func25, Try.ntmps25
  go_wp2
  go_ret
  exact ⟨rfl, rfl⟩

theorem set_cells (c : Cpu) (j : Nat) (hj : j < 16) (x : Int) : ((c.cells.setIfInBounds j (.int .u32 x)).setIfInBounds 17 (.bool (decide (2147483648 ≤ x)))).setIfInBounds 18 (.bool (x == 0)) = (c.set j x).cells := by
  have e : (x == 0) = decide (x = 0) := by rw [Bool.eq_iff_iff]; simp
  rw [e, set_reg c j hj x]
  rfl

theorem sep_set {w : World} {c : Cpu} {j : Nat} (hj : j < 16) {x : Int} {g g' : Nat} {o : Array Value} {t t' : TypeId}
    (H : Sep w ((([(g, o, t), (g', c.cells, t')] : List Row).set 1 (g', c.cells.setIfInBounds j (.int .u32 x), t')).set 1 (g', (c.cells.setIfInBounds j (.int .u32 x)).setIfInBounds 17 (.bool (decide (2147483648 ≤ x))), t') |>.set 1 (g', ((c.cells.setIfInBounds j (.int .u32 x)).setIfInBounds 17 (.bool (decide (2147483648 ≤ x)))).setIfInBounds 18 (.bool (x == 0)), t'))) : Sep w [(g, o, t), (g', (c.set j x).cells, t')] := by
  rw [set_cells c j hj x] at H; exact H

set_option maxHeartbeats 4000000 in
theorem refset_walk (c : Cpu) (a x : Int) (w : World) (ha : 0 ≤ a ∧ a < 16) (hx : 0 ≤ x ∧ x < 4294967296) : Calls Try.prog 26 #[c.val, .int .i64 a, .int .u32 x] w fun e w' => e = .returned (c.set a x).val ∧ Below w.heap.size w w' := by
  obtain ⟨j, rfl⟩ := Int.eq_ofNat_of_zero_le ha.1
  have hj : j < 16 := by omega
  have HJ := Lib.hid hj
  have H0 := (Sep.nil w).alloc2 c.cells Cpu.zero.cells 25 25
  have hsz : decide (j < c.cells.size) = true := decide_eq_true (show j < 22 by omega)
  have K0 := Lib.hid (Ke.below Non (bel2 w (.cells c.cells 25) (.cells Cpu.zero.cells 25)))
  go_enter Try.func26, Try.ntmps26
  go_wp2_with (first
    | (refine store1_sep (v := .int .u32 x) rfl 22 (.tmp 10) (.tmp 8) rfl H0 1 rfl rfl rfl hsz (by kernel_rfl) ?_ ?_; rfl; intro w1 H1 k1 s1)
    | (refine store1_sep (v := .bool (decide (2147483648 ≤ x))) rfl 4 (.tmp 13) (.tmp 12) rfl H1 1 rfl rfl rfl (by simp [Cpu.cells]) (by kernel_rfl) ?_ ?_; rfl; intro w2 H2 k2 s2)
    | (refine store1_sep (v := .bool (x == 0)) rfl 4 (.tmp 16) (.tmp 15) rfl H2 1 rfl rfl rfl (by simp [Cpu.cells]) (by kernel_rfl) ?_ ?_; rfl; intro w3 H3 k3 s3; have H3 := sep_set HJ.out H3)
    | (refine load_sep rfl 25 (.tmp 3) rfl H3 1 rfl rfl Try.underlying25 rfl (by kernel_rfl) ?_)
    | (refine store_sep rfl 25 (.tmp 6) (.tmp 17) rfl H3 0 rfl rfl rfl (by kernel_rfl) rfl rfl ?_; intro w4 H4 k4 s4))
  have F : ∀ (g : Nat), w.heap.size ≤ g → ∀ i, i < w.heap.size → i = g → Non i := fun g hg i hi e => absurd e (by omega)
  refine bodyPost_ret (res_cell rfl rfl (H4.at 0 rfl) Try.underlying25 rfl (by kernel_rfl)) rfl ⟨rfl, ?_⟩
  exact (((((K0.out.trans' k1 (F _ (Nat.le_refl _))).trans' k2 (F _ (Nat.le_refl _))).trans' k3 (F _ (Nat.le_refl _))).trans' k4 (F _ (Nat.le_succ _)))).non

def Cpu.loaded (c : Cpu) (a x : Int) : Cpu × Int := if a < 0 ∨ 15 < a then (Cpu.zero, 2) else (c.set a x, 0)

set_option maxHeartbeats 4000000 in
theorem loaded_walk (c : Cpu) (a x : Int) (w : World) (hx : 0 ≤ x ∧ x < 4294967296) : Calls Try.prog 20 #[c.val, .int .i64 a, .int .u32 x] w fun e w' => e = .returned (.tuple #[(c.loaded a x).1.val, .int .i64 (c.loaded a x).2]) ∧ Below w.heap.size w w' := by
  have H0 := (Sep.nil w).alloc2 c.cells Cpu.zero.cells 25 25
  have K0 := Lib.hid (Ke.below Non (bel2 w (.cells c.cells 25) (.cells Cpu.zero.cells 25)))
  have F : ∀ (g : Nat), w.heap.size ≤ g → ∀ i, i < w.heap.size → i = g → Non i := fun g hg i hi e => absurd e (by omega)
  have FF := Lib.hid F
  clear F
  by_cases h : a < 0 ∨ 15 < a
  · have e : c.loaded a x = (Cpu.zero, 2) := if_pos h
    rw [e]
    clear e
    have hc : a < 0 ∨ (decide (a < 0) = false ∧ decide (15 < a) = true) := by
      by_cases h1 : a < 0
      · exact .inl h1
      · exact .inr ⟨decide_eq_false h1, decide_eq_true (by omega)⟩
    rcases hc with hc | ⟨hc1, hc2⟩
    · have hd : decide (a < 0) = true := decide_eq_true hc
      go_enter Try.func20, Try.ntmps20
      go_wp2_with (first
        | (refine store_sep rfl 25 (.tmp 6) (.tmp 14) rfl H0 0 rfl rfl rfl (by kernel_rfl) rfl rfl ?_; intro w4 H4 k4 s4))
      refine bodyPost_ret (res_cell_tmp rfl rfl (H4.at 0 rfl) Try.underlying25 rfl (by kernel_rfl)) rfl ⟨rfl, ?_⟩
      exact (K0.out.trans' k4 (FF.out _ (Nat.le_succ _))).non
    · go_enter Try.func20, Try.ntmps20
      go_wp2_with (first
        | (refine store_sep rfl 25 (.tmp 6) (.tmp 14) rfl H0 0 rfl rfl rfl (by kernel_rfl) rfl rfl ?_; intro w4 H4 k4 s4))
      refine bodyPost_ret (res_cell_tmp rfl rfl (H4.at 0 rfl) Try.underlying25 rfl (by kernel_rfl)) rfl ⟨rfl, ?_⟩
      exact (K0.out.trans' k4 (FF.out _ (Nat.le_succ _))).non
  · have e : c.loaded a x = (c.set a x, 0) := if_neg h
    rw [e]
    clear e
    have hd1 : decide (a < 0) = false := decide_eq_false (by omega)
    have hd2 : decide (15 < a) = false := decide_eq_false (by omega)
    have ha : 0 ≤ a ∧ a < 16 := by omega
    clear h
    go_enter Try.func20, Try.ntmps20
    go_wp2_with fail
    refine (set_walk c w.heap.size a x _ (H0.at 1 rfl) ha hx).mono ?_
    rintro e w1 ⟨rfl, hh, ka⟩
    have k1 := Ke.ofAside ka
    have H1 := H0.upd 1 rfl hh k1
    go_wp2_with (first
      | (refine load_sep rfl 25 (.tmp 3) rfl H1 1 rfl rfl Try.underlying25 rfl (by kernel_rfl) ?_)
      | (refine store_sep rfl 25 (.tmp 6) (.tmp 18) rfl H1 0 rfl rfl rfl (by kernel_rfl) rfl rfl ?_; intro w4 H4 k4 s4))
    refine bodyPost_ret (res_cell_tmp rfl rfl (H4.at 0 rfl) Try.underlying25 rfl (by kernel_rfl)) rfl ⟨rfl, ?_⟩
    exact ((K0.out.trans' k1 (FF.out _ (Nat.le_refl _))).trans' k4 (FF.out _ (Nat.le_succ _))).non

def Cpu.answered (c : Cpu) (x : Int) : Cpu := { c with r := fun j => if j = 0 then x else c.r j }
theorem answered_cells (c : Cpu) (x : Int) : c.cells.setIfInBounds 0 (.int .u32 x) = (c.answered x).cells := rfl

set_option maxHeartbeats 4000000 in
theorem answered_walk (c : Cpu) (x : Int) (w : World) : Calls Try.prog 21 #[c.val, .int .u32 x] w fun e w' => e = .returned (c.answered x).val ∧ Below w.heap.size w w' := by
  have H0 := (Sep.nil w).alloc2 c.cells Cpu.zero.cells 25 25
  have K0 := Lib.hid (Ke.below Non (bel2 w (.cells c.cells 25) (.cells Cpu.zero.cells 25)))
  have F : ∀ (g : Nat), w.heap.size ≤ g → ∀ i, i < w.heap.size → i = g → Non i := fun g hg i hi e => absurd e (by omega)
  have FF := Lib.hid F
  clear F
  go_enter Try.func21, Try.ntmps21
  go_wp2_with (first
    | (refine store1_sep (v := .int .u32 x) rfl 22 (.tmp 7) (.tmp 5) rfl H0 1 rfl rfl rfl rfl (by kernel_rfl) ?_ ?_; rfl; intro w1 H1 k1 s1; have H1 : Sep w1 [(w.heap.size + 1, Cpu.zero.cells, 25), (w.heap.size, (c.answered x).cells, 25)] := H1)
    | (refine load_sep rfl 25 (.tmp 2) rfl H1 1 rfl rfl Try.underlying25 rfl (by kernel_rfl) ?_)
    | (refine store_sep rfl 25 (.tmp 4) (.tmp 8) rfl H1 0 rfl rfl rfl (by kernel_rfl) rfl rfl ?_; intro w4 H4 k4 s4))
  refine bodyPost_ret (res_cell rfl rfl (H4.at 0 rfl) Try.underlying25 rfl (by kernel_rfl)) rfl ⟨rfl, ?_⟩
  exact ((K0.out.trans' k1 (FF.out _ (Nat.le_refl _))).trans' k4 (FF.out _ (Nat.le_succ _))).non

end Go.Proofs.Ytkeaogphaifnmaa
