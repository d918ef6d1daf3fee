/- Contracts of isa.Value, risc.number. -/
import Derived.Test.YtkeaogphaifnmaaRiscFlags
import Derived.Test.YtkeaogphaifnmaaRiscCells
namespace Go.Proofs.Ytkeaogphaifnmaa
set_option linter.unusedVariables false
set_option linter.unusedSimpArgs false
open Go.RowKit

def Ins.value (i : Ins) : Int :=
  if i.form = 1 then
    if i.u = true ∧ i.op = 0 then i.im % 4294967296 * 65536 % 4294967296
    else if i.v then bits .or .u32 (i.im % 4294967296) 4294901760 else i.im % 4294967296
  else 0

set_option maxHeartbeats 1000000 in
theorem value_walk (i : Ins) (w : World) : Calls Try.prog 59 #[i.val] w fun e w' => e = .returned (.int .u32 i.value) ∧ Below w.heap.size w w' := by
  obtain ⟨form, u, v, a, b, c, op, im, off, cond, n⟩ := i
  by_cases hf : form = 1
  · subst hf
    by_cases ho : op = 0
    · subst ho
      cases u <;> cases v
      all_goals
        go_enter Try.func59, Try.ntmps59
        go_wp2
        go_ret
        exact ⟨ret_int (by simp [Ins.value]), (Below.refl _ _).alloc (Nat.le_refl _) _⟩
    · cases u <;> cases v
      all_goals
        go_enter Try.func59, Try.ntmps59
        go_wp2
        go_ret
        exact ⟨ret_int (by simp [Ins.value, ho]), (Below.refl _ _).alloc (Nat.le_refl _) _⟩
  · go_enter Try.func59, Try.ntmps59
    go_wp2
    go_ret
    exact ⟨ret_int (by simp [Ins.value, hf]), (Below.refl _ _).alloc (Nat.le_refl _) _⟩

/-- what an operation's last part comes to. -/
def Cpu.num (c : Cpu) (i : Ins) : Int :=
  if i.form = 1 then i.value else if i.op = 0 ∧ i.u = true then (if i.c = 0 then c.h else c.flags) else c.r i.c.toNat

set_option maxHeartbeats 1000000 in
theorem number_walk (c : Cpu) (b : Nat) (i : Ins) (w : World) (h : Holds w b c) (hc : 0 ≤ i.c ∧ i.c < 16) :
    Calls Try.prog 40 #[.pointer (some ⟨b, 0, none⟩), i.val] w fun e w' => e = .returned (.int .u32 (c.num i)) ∧ Below w.heap.size w w' := by
  obtain ⟨form, u, v, a, bb, cc, op, im, off, cond, n⟩ := i
  simp only at hc
  by_cases hf : form = 1
  · subst hf
    go_enter Try.func40, Try.ntmps40
    go_wp2_with fail
    refine (value_walk ⟨1, u, v, a, bb, cc, op, im, off, cond, n⟩ _).mono ?_
    rintro e w' ⟨rfl, hb⟩
    go_wp2_with fail
    go_ret
    exact ⟨ret_int (by simp [Cpu.num]), ((Below.refl _ _).alloc (Nat.le_refl _) _).trans (hb.mono (by simp))⟩
  · by_cases hu : op = 0 ∧ u = true
    · obtain ⟨rfl, rfl⟩ := hu
      by_cases h0 : cc = 0
      · subst h0
        have hB := h.below (B := w.heap.size) ((Below.refl w.heap.size w).alloc (Nat.le_refl _) (.cells #[.int .i64 form, .bool true, .bool v, .int .i64 a, .int .i64 bb, .int .i64 0, .int .i64 0, .int .i64 im, .int .i64 off, .int .i64 cond, .int .i64 n] 35)) h.lt
        have hh := hB.h
        clear hB
        go_enter Try.func40, Try.ntmps40
        go_wp2_with fail
        go_ret
        exact ⟨ret_int (by simp [Cpu.num, hf]), (Below.refl _ _).alloc (Nat.le_refl _) _⟩
      · have hB := h.below (B := w.heap.size) ((Below.refl w.heap.size w).alloc (Nat.le_refl _) (.cells #[.int .i64 form, .bool true, .bool v, .int .i64 a, .int .i64 bb, .int .i64 cc, .int .i64 0, .int .i64 im, .int .i64 off, .int .i64 cond, .int .i64 n] 35)) h.lt
        have HB := Lib.hid hB
        clear hB
        go_enter Try.func40, Try.ntmps40
        go_wp2_with (refine wpList_load_row rfl 25 _ rfl b rfl 25 _ (0, 0) _ HB.out Try.underlying25 rfl (by kernel_rfl) ?_)
        refine (flags_walk c _).mono ?_
        rintro e w' ⟨rfl, hb⟩
        go_wp2_with fail
        go_ret
        exact ⟨ret_int (by simp [Cpu.num, hf, h0]), ((Below.refl _ _).alloc (Nat.le_refl _) _).trans (hb.mono (by simp))⟩
    · obtain ⟨j, rfl⟩ := Int.eq_ofNat_of_zero_le hc.1
      have hj : j < 16 := by omega
      have B1 := (Below.refl w.heap.size w).alloc (Nat.le_refl _) (.cells #[.int .i64 form, .bool u, .bool v, .int .i64 a, .int .i64 bb, .int .i64 j, .int .i64 op, .int .i64 im, .int .i64 off, .int .i64 cond, .int .i64 n] 35)
      have hr := (h.below B1 h.lt).reg j hj
      obtain ⟨-, -, -, -, -, hi, -⟩ := (InsAt.new w ⟨form, u, v, a, bb, j, op, im, off, cond, n⟩).all
      have HH := Lib.hid (h.below B1 h.lt).lt
      have HB := Lib.hid (InsAt.new w ⟨form, u, v, a, bb, j, op, im, off, cond, n⟩).lt
      clear h B1
      by_cases h0 : op = 0
      · subst h0
        obtain rfl : u = false := by cases u; rfl; simp at hu
        clear hu
        go_enter Try.func40, Try.ntmps40
        go_wp2_with fail
        refine wp_region_mix' [] [0, 1, 2, 3, 4, 5, 6, 7] (by kernel_rfl) (by kernel_rfl) (fun _ _ d _ _ h => by cases d <;> exact h) ?_
        intro wd hbd
        have hl1 := later_cell (p := ⟨b, j, none⟩) (Nat.lt_of_lt_of_le HH.out hbd.size) ((hbd.cell (p := ⟨b, j, none⟩) HH.out).trans hr)
        have hl2 := later_cell (p := ⟨w.heap.size, 5, none⟩) (Nat.lt_of_lt_of_le HB.out hbd.size) ((hbd.cell (p := ⟨w.heap.size, 5, none⟩) HB.out).trans hi)
        refine mix_end ?_
        simp only [pickOps, nth]
        repeat (go_big_quiet_step (fail))
        refine wpQuiet_nil ?_
        go_wp2_with fail
        go_ret
        exact ⟨ret_int (by simp [Cpu.num, hf]), bel_then ((Below.refl _ _).alloc (Nat.le_refl _) _) hbd⟩
      · clear hu
        go_enter Try.func40, Try.ntmps40
        go_wp2_with fail
        refine wp_region_mix' [] [0, 1, 2, 3, 4, 5, 6, 7] (by kernel_rfl) (by kernel_rfl) (fun _ _ d _ _ h => by cases d <;> exact h) ?_
        intro wd hbd
        have hl1 := later_cell (p := ⟨b, j, none⟩) (Nat.lt_of_lt_of_le HH.out hbd.size) ((hbd.cell (p := ⟨b, j, none⟩) HH.out).trans hr)
        have hl2 := later_cell (p := ⟨w.heap.size, 5, none⟩) (Nat.lt_of_lt_of_le HB.out hbd.size) ((hbd.cell (p := ⟨w.heap.size, 5, none⟩) HB.out).trans hi)
        refine mix_end ?_
        simp only [pickOps, nth]
        repeat (go_big_quiet_step (fail))
        refine wpQuiet_nil ?_
        go_wp2_with fail
        go_ret
        exact ⟨ret_int (by simp [Cpu.num, hf, h0]), bel_then ((Below.refl _ _).alloc (Nat.le_refl _) _) hbd⟩

end Go.Proofs.Ytkeaogphaifnmaa
