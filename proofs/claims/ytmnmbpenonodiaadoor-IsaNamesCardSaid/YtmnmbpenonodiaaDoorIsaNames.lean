/- The statement IsaNames, walked. -/
import Derived.Test.YtmnmbpenonodiaaDoorIsaKnown
import Derived.Test.YtmnmbpenonodiaaDoorIsaNames0
namespace Go.Proofs.YtmnmbpenonodiaaDoor
set_option linter.unusedVariables false
set_option linter.unusedSimpArgs false
open Go.RowKit

theorem conds_walk (w : World) : Calls Tryd.prog 8 #[] w fun e w' => e = .returned (.slice (some ⟨w.heap.size, 0, none⟩) 16 16) ∧ At w' w.heap.size (condL.map Value.string).toArray 9 ∧ Below w.heap.size w w' := by
  go_enter Tryd.func8, Tryd.ntmps8
  go_wp2_with fail
  go_ret
  exact ⟨rfl, At.new w _ _, bel1 w _⟩
theorem ops_walk (w : World) : Calls Tryd.prog 9 #[] w fun e w' => e = .returned (.slice (some ⟨w.heap.size, 0, none⟩) 12 12) ∧ At w' w.heap.size (opL.map Value.string).toArray 9 ∧ Below w.heap.size w w' := by
  go_enter Tryd.func9, Tryd.ntmps9
  go_wp2_with fail
  go_ret
  exact ⟨rfl, At.new w _ _, bel1 w _⟩

theorem cond_cell (k : Nat) (h : k < 16) : (condL.map Value.string).toArray[k]? = some (.string (condN k)) := by
  rcases (by omega : k = 0 ∨ k = 1 ∨ k = 2 ∨ k = 3 ∨ k = 4 ∨ k = 5 ∨ k = 6 ∨ k = 7 ∨ k = 8 ∨ k = 9 ∨ k = 10 ∨ k = 11 ∨ k = 12 ∨ k = 13 ∨ k = 14 ∨ k = 15) with rfl | rfl | rfl | rfl | rfl | rfl | rfl | rfl | rfl | rfl | rfl | rfl | rfl | rfl | rfl | rfl <;> rfl
theorem op_cell (k : Nat) (h : k < 12) : (opL.map Value.string).toArray[k]? = some (.string (opN k)) := by
  match k, h with
  | 0, _ | 1, _ | 2, _ | 3, _ | 4, _ | 5, _ | 6, _ | 7, _ | 8, _ | 9, _ | 10, _ | 11, _ => rfl
theorem condN_size (n : Int) : (condN n).size ≤ 2 := by
  by_cases h : 0 ≤ n ∧ n < 16
  · obtain ⟨k, rfl⟩ := Int.eq_ofNat_of_zero_le h.1
    have hk : k < 16 := by omega
    match k, hk with
    | 0, _ | 1, _ | 2, _ | 3, _ | 4, _ | 5, _ | 6, _ | 7, _ | 8, _ | 9, _ | 10, _ | 11, _ | 12, _ | 13, _ | 14, _ | 15, _ => exact of_decide_eq_true (by kernel_rfl)
  · unfold condN; rw [if_neg h]; decide

set_option maxHeartbeats 4000000 in
theorem names_law (n : Int) (w : World) (hL : Laid w) (hn : -9223372036854775808 ≤ n ∧ n ≤ 9223372036854775807) :
    Calls Tryd.prog 3 #[.int .i64 n] w fun e w' => e = .returned (.bool true) ∧ Below w.heap.size w w' := by
  have HL := Lib.hid hL
  have HN := Lib.hid hn
  clear hL hn
  by_cases h0 : 0 ≤ n
  · obtain ⟨k, rfl⟩ := Int.eq_ofNat_of_zero_le h0
    by_cases h12 : k < 12
    · have CC := Lib.hid (cond_cell k (by omega))
      have OC := Lib.hid (op_cell k h12)
      go_enter Tryd.func3, Tryd.ntmps3
      go_wp2_with fail
      refine (conds_walk _).mono ?_
      rintro e w1 ⟨rfl, ha, hb⟩
      have c1 : w1.cell? ⟨w.heap.size, k, none⟩ = some (.string (condN k)) := (ha.cell k).trans CC.out
      have B1 := Lib.hid hb
      clear ha hb
      go_wp2_with fail
      refine (ops_walk _).mono ?_
      rintro e w2 ⟨rfl, ha, hb⟩
      have c2 : w2.cell? ⟨w1.heap.size, k, none⟩ = some (.string (opN k)) := (ha.cell k).trans OC.out
      have B2 := Lib.hid (bel_then B1.out hb)
      clear ha hb c1
      go_wp2_with fail
      have HC := Lib.hid (rfl : condN k = condN k)
      have HO := Lib.hid (rfl : opN k = opN k)
      ( refine (cond_walk _ _ HN.out).mono ?_ ; rintro e w5 ⟨rfl, hb⟩ ; have B5 := Lib.hid (bel_then B2.out hb) ; clear hb ; have HC' := Lib.hid HC.out.symm ; (try rw [HC.out]) ; go_wp2_with fail ; refine (op_walk _ _ HN.out).mono ?_ ; rintro e w6 ⟨rfl, hb⟩ ; have B6 := Lib.hid (bel_then B5.out hb) ; clear hb ; (try rw [HO.out]) ; go_wp2_with fail ; refine (known_walk _ (HL.out.bel B6.out)).mono ?_ ; rintro e w7 ⟨rfl, hb⟩ ; have B7 := Lib.hid (bel_then B6.out hb) ; clear hb ; go_wp2_with fail ; go_ret ; exact ⟨rfl, B7.out⟩)
    · by_cases h16 : k < 16
      · have CC := Lib.hid (cond_cell k h16)
        have HO : Hid (opN k = ⟨#[]⟩) := by unfold Hid opN; rw [if_neg (by omega)]
        go_enter Tryd.func3, Tryd.ntmps3
        go_wp2_with fail
        refine (conds_walk _).mono ?_
        rintro e w2 ⟨rfl, ha, hb⟩
        have c1 : w2.cell? ⟨w.heap.size, k, none⟩ = some (.string (condN k)) := (ha.cell k).trans CC.out
        have B2 := Lib.hid hb
        clear ha hb
        go_wp2_with fail
        have HC := Lib.hid (rfl : condN k = condN k)
        ( refine (cond_walk _ _ HN.out).mono ?_ ; rintro e w5 ⟨rfl, hb⟩ ; have B5 := Lib.hid (bel_then B2.out hb) ; clear hb ; have HC' := Lib.hid HC.out.symm ; (try rw [HC.out]) ; go_wp2_with fail ; refine (op_walk _ _ HN.out).mono ?_ ; rintro e w6 ⟨rfl, hb⟩ ; have B6 := Lib.hid (bel_then B5.out hb) ; clear hb ; (try rw [HO.out]) ; go_wp2_with fail ; refine (known_walk _ (HL.out.bel B6.out)).mono ?_ ; rintro e w7 ⟨rfl, hb⟩ ; have B7 := Lib.hid (bel_then B6.out hb) ; clear hb ; go_wp2_with fail ; go_ret ; exact ⟨rfl, B7.out⟩)
      · have HO : Hid (opN k = ⟨#[]⟩) := by unfold Hid opN; rw [if_neg (by omega)]
        have HC : Hid (condN k = ⟨#[]⟩) := by unfold Hid condN; rw [if_neg (by omega)]
        have B2 := Lib.hid (Below.refl w.heap.size w)
        go_enter Tryd.func3, Tryd.ntmps3
        go_wp2_with fail
        ( refine (cond_walk _ _ HN.out).mono ?_ ; rintro e w5 ⟨rfl, hb⟩ ; have B5 := Lib.hid (bel_then B2.out hb) ; clear hb ; have HC' := Lib.hid HC.out.symm ; (try rw [HC.out]) ; go_wp2_with fail ; refine (op_walk _ _ HN.out).mono ?_ ; rintro e w6 ⟨rfl, hb⟩ ; have B6 := Lib.hid (bel_then B5.out hb) ; clear hb ; (try rw [HO.out]) ; go_wp2_with fail ; refine (known_walk _ (HL.out.bel B6.out)).mono ?_ ; rintro e w7 ⟨rfl, hb⟩ ; have B7 := Lib.hid (bel_then B6.out hb) ; clear hb ; go_wp2_with fail ; go_ret ; exact ⟨rfl, B7.out⟩)
  · have HO : Hid (opN n = ⟨#[]⟩) := by unfold Hid opN; rw [if_neg (by omega)]
    have HC : Hid (condN n = ⟨#[]⟩) := by unfold Hid condN; rw [if_neg (by omega)]
    have B2 := Lib.hid (Below.refl w.heap.size w)
    go_enter Tryd.func3, Tryd.ntmps3
    go_wp2_with fail
    ( refine (cond_walk _ _ HN.out).mono ?_ ; rintro e w5 ⟨rfl, hb⟩ ; have B5 := Lib.hid (bel_then B2.out hb) ; clear hb ; have HC' := Lib.hid HC.out.symm ; (try rw [HC.out]) ; go_wp2_with fail ; refine (op_walk _ _ HN.out).mono ?_ ; rintro e w6 ⟨rfl, hb⟩ ; have B6 := Lib.hid (bel_then B5.out hb) ; clear hb ; (try rw [HO.out]) ; go_wp2_with fail ; refine (known_walk _ (HL.out.bel B6.out)).mono ?_ ; rintro e w7 ⟨rfl, hb⟩ ; have B7 := Lib.hid (bel_then B6.out hb) ; clear hb ; go_wp2_with fail ; go_ret ; exact ⟨rfl, B7.out⟩)

end Go.Proofs.YtmnmbpenonodiaaDoor
