/- A new table of types. -/
import Derived.Test.YtbppoegdmmflmaaTabMake
namespace Go.Proofs.Ytbppoegdmmflmaa
set_option linter.unusedVariables false
set_option linter.unusedSimpArgs false
open Go.RowKit

def bas (n : Int) : Ty := ⟨0, 0, 0, n, none, 0, 0, 0, 0⟩
def tab0 : List Ty := [bas 0, bas 4, bas 1, bas 1, bas 1, bas 4, bas 4]
def zeros7 : Array Value := (tyRow (List.replicate 7 (bas 0))).toArray
def news : Nat → Array Value
  | 0 => zeros7
  | k + 1 => (news k).setIfInBounds (k * 7 + 3) (.int .i64 4)
def news2 : Nat → Array Value
  | 0 => (news 7).setIfInBounds 3 (.int .i64 0)
  | k + 1 => (news2 k).setIfInBounds ((k + 2) * 7 + 3) (.int .i64 1)
theorem news_size : ∀ k, (news k).size = 49
  | 0 => rfl
  | k + 1 => by rw [news, Array.size_setIfInBounds]; exact news_size k
theorem news2_size : ∀ k, (news2 k).size = 49
  | 0 => by rw [news2, Array.size_setIfInBounds]; exact news_size 7
  | k + 1 => by rw [news2, Array.size_setIfInBounds]; exact news2_size k
theorem news2_end : news2 3 = (tyRow tab0).toArray := rfl

theorem zeros_is : madeCells Ty.none.val.cells (7 * 7) = news 0 := by kernel_rfl

set_option maxHeartbeats 4000000 in
theorem new_walk (w : World) : Calls Try.prog 8 #[] w fun e w' => ∃ g, e = .returned (.pointer (some ⟨g, 0, none⟩)) ∧ Tab w.heap.size w' g tab0 0 [] ∧ Below w.heap.size w w' := by
  go_enter Try.func8, Try.ntmps8
  go_wp2_with (at_make; refine make_sep rfl (.const (.int .i64 7)) (.const (.int .i64 7)) et_type rfl (Sep.nil w) 7 rfl rfl rfl (by decide) (by decide) ?_; intro w1 S1 b1 s1)
  have S2 := S1.alloc (tabCells w.heap.size 7 7 0) 41
  rw [s1, zeros_is] at S2
  have S2' : Sep _ [(w.heap.size + 1, tabCells w.heap.size 7 7 0, 41), (w.heap.size, news 0, 36)] := S2
  have HS2 := Lib.hid S2'
  have B2 := Lib.hid (bel_then b1 (bel1 w1 (.cells (tabCells w.heap.size 7 7 0) 41)))
  clear S1 b1 s1 S2 S2'
  go_loopw [13, 2] (fun i j wr => ∃ k : Nat, k ≤ 7 ∧ i = .int .i64 k ∧ Sep wr [(w.heap.size + 1, tabCells w.heap.size 7 7 0, 41), (w.heap.size, news k, 36)] ∧ Below w.heap.size w wr) (fun i _ _ => 7 - (intOf i).toNat)
  case atStart => exact ⟨0, by decide, rfl, HS2.out, B2.out⟩
  case round =>
    obtain ⟨k, hk, rfl, hs, hb⟩ := hrel
    have HS := Lib.hid hs
    have HB := Lib.hid hb
    have c0 : wr.cell? ⟨w.heap.size + 1, 0, none⟩ = some (.slice (some ⟨w.heap.size, 0, none⟩) 7 7) := ((hs.at 0 rfl).cell 0).trans rfl
    clear hs hb
    by_cases hlt : k < 7
    · have i1 : (k : Int) < 7 := by omega
      have i2 : (0 : Int) ≤ k := by omega
      have hj : decide (k * 7 + 3 < (news k).size) = true := decide_eq_true (by rw [news_size]; omega)
      have HJ := Lib.hid hj
      clear hj
      go_wp2_with (refine store1_sep rfl 3 (.tmp 22) (.const (.int .i64 4)) rfl HS.out 1 rfl rfl rfl HJ.out (by kernel_rfl) rfl ?_; intro w3 S3 k3 s3)
      go_roundw
      case rel => exact ⟨k + 1, by omega, by go_num, S3, (HB.out.trans (Below.ofKe k3 (fun i e => by subst e; exact Nat.le_refl _) HB.out.size))⟩
      case measure => simp [intOf]; omega
    · obtain rfl : k = 7 := by omega
      have hj : decide (3 < (news 7).size) = true := decide_eq_true (by rw [news_size]; omega)
      have HJ := Lib.hid hj
      clear hj hlt hk
      go_wp2_with (refine store1_sep rfl 3 (.tmp 29) (.const (.int .i64 0)) rfl HS.out 1 rfl rfl rfl HJ.out (by kernel_rfl) rfl ?_; intro w3 S3 k3 s3; clear s3)
      have S4 := S3.alloc #[.int .i64 2, .int .i64 3, .int .i64 4] 3
      have S4' : Sep _ [(w3.heap.size, #[.int .i64 2, .int .i64 3, .int .i64 4], 3), (w.heap.size + 1, tabCells w.heap.size 7 7 0, 41), (w.heap.size, news2 0, 36)] := S4
      have HS4 := Lib.hid S4'
      have B3 := HB.out.trans (Below.ofKe k3 (fun i e => by subst e; exact Nat.le_refl _) HB.out.size)
      have B4 := Lib.hid (B3.alloc B3.size (.cells #[.int .i64 2, .int .i64 3, .int .i64 4] 3))
      clear S3 k3 S4 S4' B3
      go_loopw [32, 4] (fun i j wr => ∃ k : Nat, k ≤ 3 ∧ i = .int .i64 k ∧ Sep wr [(w3.heap.size, #[.int .i64 2, .int .i64 3, .int .i64 4], 3), (w.heap.size + 1, tabCells w.heap.size 7 7 0, 41), (w.heap.size, news2 k, 36)] ∧ Below w.heap.size w wr) (fun i _ _ => 3 - (intOf i).toNat)
      case atStart => exact ⟨0, by decide, rfl, HS4.out, B4.out⟩
      case round =>
        obtain ⟨k, hk, rfl, hs, hb⟩ := hrel
        have HS := Lib.hid hs
        have HB := Lib.hid hb
        have c0 : wr.cell? ⟨w.heap.size + 1, 0, none⟩ = some (.slice (some ⟨w.heap.size, 0, none⟩) 7 7) := ((hs.at 1 rfl).cell 0).trans rfl
        by_cases hlt : k < 3
        · have i1 : (k : Int) < 3 := by omega
          have i2 : (0 : Int) ≤ k := by omega
          have c1 : wr.cell? ⟨w3.heap.size, k, none⟩ = some (.int .i64 ((k + 2 : Nat) : Int)) := by
            rw [(hs.at 0 rfl).cell]
            rcases (by omega : k = 0 ∨ k = 1 ∨ k = 2) with rfl | rfl | rfl <;> rfl
          have i3 : (((k + 2 : Nat) : Int)) < 7 := by omega
          have i4 : (0 : Int) ≤ ((k + 2 : Nat) : Int) := by omega
          have i5 : (((k + 2 : Nat) : Int)).toNat = k + 2 := by omega
          have hj : decide ((k + 2) * 7 + 3 < (news2 k).size) = true := decide_eq_true (by rw [news2_size]; omega)
          have HJ := Lib.hid hj
          clear hs hb hj
          go_wp2_with (refine store1_sep rfl 3 (.tmp 42) (.const (.int .i64 1)) rfl HS.out 2 rfl rfl rfl HJ.out (by kernel_rfl) rfl ?_; intro w5 S5 k5 s5)
          go_roundw
          case rel => exact ⟨k + 1, by omega, by go_num, S5, (HB.out.trans (Below.ofKe k5 (fun i e => by subst e; exact Nat.le_refl _) HB.out.size))⟩
          case measure => simp [intOf]; omega
        · obtain rfl : k = 3 := by omega
          clear hs hb hlt hk c0
          go_wp2_with fail
          go_ret
          refine ⟨w.heap.size + 1, rfl, ⟨by omega, w.heap.size, 7, news2 3, Nat.le_refl _, HS.out.tail, ⟨rfl, by decide, by decide, ?_⟩⟩, HB.out⟩
          rw [news2_end]; rfl

end Go.Proofs.Ytbppoegdmmflmaa
