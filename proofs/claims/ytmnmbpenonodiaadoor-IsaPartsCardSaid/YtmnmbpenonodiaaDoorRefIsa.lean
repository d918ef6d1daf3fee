/- Contracts of the reference of layer 3: names, has, in, one. -/
import Derived.Test.YtmnmbpenonodiaaDoorRiscData
import Derived.Test.YtmnmbpenonodiaaDoorGuard
namespace Go.Proofs.YtmnmbpenonodiaaDoor
set_option linter.unusedVariables false
set_option linter.unusedSimpArgs false
open Go.RowKit

/-- what a form names. -/
def letters (k : Int) : ByteArray :=
  if k = 0 then ⟨#[117, 97, 98, 111, 99]⟩ else if k = 1 then ⟨#[117, 118, 97, 98, 111, 105]⟩ else if k = 2 then ⟨#[118, 97, 98, 102]⟩ else if k = 3 then ⟨#[118, 97, 98, 102]⟩
  else if k = 4 then ⟨#[118, 100, 102]⟩ else if k = 5 then ⟨#[118, 100, 99]⟩ else if k = 6 then ⟨#[100, 110]⟩ else ⟨#[]⟩

theorem names_walk (k : Int) (w : World) : Calls Tryd.prog 23 #[.int .i64 k] w fun e w' => e = .returned (.string (letters k)) ∧ Below w.heap.size w w' := by
  by_cases h0 : 0 ≤ k ∧ k ≤ 6
  · have hk : k = 0 ∨ k = 1 ∨ k = 2 ∨ k = 3 ∨ k = 4 ∨ k = 5 ∨ k = 6 := by omega
    clear h0
    rcases hk with rfl | rfl | rfl | rfl | rfl | rfl | rfl
    all_goals
      go_enter Tryd.func23, Tryd.ntmps23
      go_wp2
      go_ret
      exact ⟨rfl, (Below.refl _ _).alloc (Nat.le_refl _) _⟩
  · have hl : letters k = ⟨#[]⟩ := by
      unfold letters
      rw [if_neg (by omega), if_neg (by omega), if_neg (by omega), if_neg (by omega), if_neg (by omega), if_neg (by omega), if_neg (by omega)]
    rw [hl]
    clear hl
    by_cases h1 : k < 0
    · go_enter Tryd.func23, Tryd.ntmps23
      go_wp2
      go_ret
      exact ⟨rfl, (Below.refl _ _).alloc (Nat.le_refl _) _⟩
    · have h2 : 6 < k := by omega
      clear h0
      go_enter Tryd.func23, Tryd.ntmps23
      go_wp2
      go_ret
      exact ⟨rfl, (Below.refl _ _).alloc (Nat.le_refl _) _⟩

def hasB (s : ByteArray) (c : Int) : Bool := s.data.toList.any fun b => (b.toNat : Int) == c

theorem any_take (s : ByteArray) (c : Int) (k : Nat) (hk : k < s.size) (h : (s.data.toList.take k).any (fun b => (b.toNat : Int) == c) = false) : ((s[k].toNat : Int) == c) = (s.data.toList.take (k + 1)).any fun b => (b.toNat : Int) == c := by
  rw [List.take_succ_eq_append_getElem (by simpa using hk), List.any_append, h]
  simp
  rfl

theorem has_walk (s : ByteArray) (c : Int) (w : World) (hs : s.size ≤ maxLen) : Calls Tryd.prog 24 #[.string s, .int .u8 c] w fun e w' => e = .returned (.bool (hasB s c)) ∧ w = w' := by
  unfold maxLen at hs
  go_enter Tryd.func24, Tryd.ntmps24
  go_wp2
  go_loop [5] (fun i => ∃ k : Nat, k ≤ s.size ∧ i = .int .i64 k ∧ (s.data.toList.take k).any (fun b => (b.toNat : Int) == c) = false) (fun i => s.size - (intOf i).toNat)
  case atStart => exact ⟨0, Nat.zero_le _, rfl, rfl⟩
  case round =>
    obtain ⟨k, hk, rfl, ha⟩ := hrel
    have HA := Lib.hid ha
    clear ha
    by_cases hlt : k < s.size
    · have HN := Lib.hid (any_take s c k hlt HA.out)
      cases hc : ((s[k].toNat : Int) == c)
      · have HC := Lib.hid hc
        go_wp2
        go_round
        case rel => exact ⟨k + 1, by omega, by go_num, by rw [← HN.out]; exact HC.out⟩
        case measure => simp [intOf]; omega
      · have HC := Lib.hid hc
        go_wp2
        go_ret
        refine ⟨ret_bool ?_, rfl⟩
        have h := HN.out
        rw [HC.out] at h
        unfold hasB
        rw [← List.take_append_drop (k + 1) s.data.toList, List.any_append, ← h]
        rfl
    · go_wp2
      go_ret
      refine ⟨ret_bool ?_, rfl⟩
      unfold hasB
      rw [← HA.out, List.take_of_length_le (by simp; omega)]

theorem in_walk (n x y : Int) (w : World) : Calls Tryd.prog 25 #[.int .i64 n, .int .i64 x, .int .i64 y] w fun e w' => e = .returned (.bool (decide (x ≤ n ∧ n ≤ y))) ∧ w = w' := by
  by_cases h1 : x ≤ n
  · by_cases h2 : n ≤ y
    all_goals
      go_enter Tryd.func25, Tryd.ntmps25
      go_wp2
      go_ret
      exact ⟨ret_bool (by simp [*]), rfl⟩
  · have h3 : ¬ (x ≤ n ∧ n ≤ y) := by omega
    go_enter Tryd.func25, Tryd.ntmps25
    go_wp2
    go_ret
    exact ⟨ret_bool (by simp [*]), rfl⟩

theorem one_walk (f : Bool) (w : World) : Calls Tryd.prog 42 #[.bool f] w fun e w' => e = .returned (.int .i64 (if f then 1 else 0)) ∧ w = w' := by
  cases f
  all_goals
    go_enter Tryd.func42, Tryd.ntmps42
    go_wp2
    go_ret
    exact ⟨rfl, rfl⟩

end Go.Proofs.YtmnmbpenonodiaaDoor
