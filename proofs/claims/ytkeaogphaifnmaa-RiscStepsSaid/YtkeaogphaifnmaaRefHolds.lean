/- Contract of the reference's Holds. -/
import Derived.Test.YtkeaogphaifnmaaRiscFlags
import Derived.Test.YtkeaogphaifnmaaWordArith
import Derived.Test.YtkeaogphaifnmaaSep
namespace Go.Proofs.Ytkeaogphaifnmaa
set_option linter.unusedVariables false
set_option linter.unusedSimpArgs false
open Go.RowKit

set_option maxHeartbeats 16000000 in
theorem refholds_walk (c : Cpu) (cond : Int) (w : World) : Calls Try.prog 22 #[c.val, .int .i64 cond] w fun e w' => e = .returned (.bool (c.cond cond)) ∧ Below w.heap.size w w' := by
  have HD := Lib.hid (tdiv_floor (x := cond) (y := 16) (by decide))
  have HC : Hid (∀ m : Int, cond % 16 = m → c.cond cond = c.cond m) := by
    refine Lib.hid ?_
    intro m hm
    unfold Cpu.cond
    rw [show cond % 8 = m % 8 by omega, show cond % 16 = m % 16 by omega]
  have h17 : c.cells[17]? = some (.bool c.n) := rfl
  have h18 : c.cells[18]? = some (.bool c.z) := rfl
  have h19 : c.cells[19]? = some (.bool c.c) := rfl
  have h20 : c.cells[20]? = some (.bool c.v) := rfl
  obtain ⟨bn, ebn⟩ : ∃ b, b = c.n := ⟨_, rfl⟩
  obtain ⟨bz, ebz⟩ : ∃ b, b = c.z := ⟨_, rfl⟩
  obtain ⟨bc, ebc⟩ : ∃ b, b = c.c := ⟨_, rfl⟩
  obtain ⟨bv, ebv⟩ : ∃ b, b = c.v := ⟨_, rfl⟩
  rw [← ebn] at h17
  rw [← ebz] at h18
  rw [← ebc] at h19
  rw [← ebv] at h20
  have E := Lib.hid (show c.n = bn ∧ c.z = bz ∧ c.c = bc ∧ c.v = bv from ⟨ebn.symm, ebz.symm, ebc.symm, ebv.symm⟩)
  clear ebn ebz ebc ebv
  obtain ⟨q, hqe⟩ : ∃ q, q = cond % 16 := ⟨_, rfl⟩
  have HV := HC.out q hqe.symm
  have HV := Lib.hid HV
  rcases Int.lt_or_le q 8 with h8 | h8
  · have hq : q = 0 ∨ q = 1 ∨ q = 2 ∨ q = 3 ∨ q = 4 ∨ q = 5 ∨ q = 6 ∨ q = 7 := by omega
    have hb : 0 ≤ q ∧ q < 8 := by omega
    by_cases hn : cond.tmod 16 < 0
    · have hs : wrap64 (cond.tmod 16 + 16) = q := by
        have := (HD.out.1 hn).2
        rw [this, ← hqe]; unfold wrap64; omega
      clear HC HD hqe
      ( go_enter Try.func22, Try.ntmps22 ; go_wp2_with (rw [hs]) ; all_goals (rcases hq with rfl | rfl | rfl | rfl | rfl | rfl | rfl | rfl) ; all_goals go_ret ; all_goals (exact ⟨ret_bool (HV.out.trans (by obtain ⟨a1, a2, a3, a4⟩ := E.out; simp [Cpu.cond, Cpu.is, a1, a2, a3, a4, *]; try (cases bn <;> cases bv <;> simp_all))).symm, bel2 w _ _⟩))
    · have hs : cond.tmod 16 = q := by
        have := (HD.out.2 (by omega)).2
        omega
      clear HC HD hqe hn
      ( go_enter Try.func22, Try.ntmps22 ; go_wp2_with (rw [hs]) ; all_goals (rcases hq with rfl | rfl | rfl | rfl | rfl | rfl | rfl | rfl) ; all_goals go_ret ; all_goals (exact ⟨ret_bool (HV.out.trans (by obtain ⟨a1, a2, a3, a4⟩ := E.out; simp [Cpu.cond, Cpu.is, a1, a2, a3, a4, *]; try (cases bn <;> cases bv <;> simp_all))).symm, bel2 w _ _⟩))
  · have hq : q = 8 ∨ q = 9 ∨ q = 10 ∨ q = 11 ∨ q = 12 ∨ q = 13 ∨ q = 14 ∨ q = 15 := by omega
    by_cases hn : cond.tmod 16 < 0
    · have hs : wrap64 (cond.tmod 16 + 16) = q := by
        have := (HD.out.1 hn).2
        rw [this, ← hqe]; unfold wrap64; omega
      clear HC HD hqe h8
      rcases hq with rfl | rfl | rfl | rfl | rfl | rfl | rfl | rfl
      all_goals ( go_enter Try.func22, Try.ntmps22 ; go_wp2_with (rw [hs]) ; all_goals go_ret ; all_goals (exact ⟨ret_bool (HV.out.trans (by obtain ⟨a1, a2, a3, a4⟩ := E.out; simp [Cpu.cond, Cpu.is, a1, a2, a3, a4, *]; try (cases bn <;> cases bv <;> simp_all))).symm, bel2 w _ _⟩))
    · have hs : cond.tmod 16 = q := by
        have := (HD.out.2 (by omega)).2
        omega
      clear HC HD hqe hn h8
      rcases hq with rfl | rfl | rfl | rfl | rfl | rfl | rfl | rfl
      all_goals ( go_enter Try.func22, Try.ntmps22 ; go_wp2_with (rw [hs]) ; all_goals go_ret ; all_goals (exact ⟨ret_bool (HV.out.trans (by obtain ⟨a1, a2, a3, a4⟩ := E.out; simp [Cpu.cond, Cpu.is, a1, a2, a3, a4, *]; try (cases bn <;> cases bv <;> simp_all))).symm, bel2 w _ _⟩))

end Go.Proofs.Ytkeaogphaifnmaa
