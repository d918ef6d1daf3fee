/- Contracts: the reference's letter, digit, at. -/
import Derived.Test.YtdgiijidgjagbaaScanQuiet
namespace Go.Proofs.Ytdgiijidgjagbaa
set_option linter.unusedVariables false
set_option linter.unusedSimpArgs false
open Go.RowKit

theorem rdigit_walk (b : Int) (w : World) : Calls Try.prog 39 #[.int .u8 b] w fun e w' => e = .returned (.bool (digitB b)) ∧ w = w' := by
  unfold digitB
  go_enter Try.func39, Try.ntmps39
  by_cases h1 : 48 ≤ b
  · have d1 : decide (48 ≤ b) = true := decide_eq_true h1
    go_wp2
    go_ret
    first | exact ⟨rfl, rfl⟩ | (rw [d1]; simp)
  · have d1 : decide (48 ≤ b) = false := decide_eq_false h1
    go_wp2
    go_ret
    first | exact ⟨rfl, rfl⟩ | (rw [d1]; simp)

theorem rletter_walk (b : Int) (w : World) : Calls Try.prog 37 #[.int .u8 b] w fun e w' => e = .returned (.bool (letterB b)) ∧ w = w' := by
  unfold letterB
  go_enter Try.func37, Try.ntmps37
  by_cases h1 : 65 ≤ b
  · have d1 : decide (65 ≤ b) = true := decide_eq_true h1
    by_cases h2 : b ≤ 90
    · have d2 : decide (b ≤ 90) = true := decide_eq_true h2
      go_wp2
      go_ret
      first | exact ⟨rfl, rfl⟩ | (rw [d1, d2]; simp)
    · have d2 : decide (b ≤ 90) = false := decide_eq_false h2
      by_cases h3 : 97 ≤ b
      · have d3 : decide (97 ≤ b) = true := decide_eq_true h3
        go_wp2
        go_ret
        first | exact ⟨rfl, rfl⟩ | (rw [d1, d2, d3]; simp)
      · have d3 : decide (97 ≤ b) = false := decide_eq_false h3
        go_wp2
        go_ret
        first | exact ⟨rfl, rfl⟩ | (rw [d1, d2, d3]; simp)
  · have d1 : decide (65 ≤ b) = false := decide_eq_false h1
    have d3 : decide (97 ≤ b) = false := decide_eq_false (by omega)
    go_wp2
    go_ret
    first | exact ⟨rfl, rfl⟩ | (rw [d1, d3]; simp)

theorem rletter_is (b : Int) (r : Bool) (h : letterB b = r) (w : World) : Calls Try.prog 37 #[.int .u8 b] w fun e w' => e = .returned (.bool r) ∧ w = w' := h ▸ rletter_walk b w
theorem rdigit_is (b : Int) (r : Bool) (h : digitB b = r) (w : World) : Calls Try.prog 39 #[.int .u8 b] w fun e w' => e = .returned (.bool r) ∧ w = w' := h ▸ rdigit_walk b w
theorem rat_walk {w : World} {a : Option Addr} {c : Nat} {l : List Int} (h : RdI .u8 w a c l) (i : Nat) (hi : i ≤ 9223372036854775807) :
    Calls Try.prog 38 #[.slice a l.length c, .int .i64 i] w fun e w' => e = .returned (.int .u8 (l.getD i 0)) ∧ w = w' := by
  have hlen := h.len
  obtain ⟨v, hv⟩ : ∃ v, l.getD i 0 = v := ⟨_, rfl⟩
  have i0 : (0 : Int) ≤ i := by omega
  have n0 : (0 : Int) ≤ l.length := by omega
  by_cases hil : i < l.length
  · obtain ⟨b, o, h1, h2⟩ := h.cells
    obtain ⟨rfl, hb⟩ := h1 (by omega)
    have c1 := h2 i hil
    have i2 : (i : Int) < l.length := by omega
    rw [hv] at c1 ⊢
    clear h hv h2 h1
    go_enter Try.func38, Try.ntmps38
    go_wp2
    go_ret
    exact ⟨rfl, rfl⟩
  · have hz : v = 0 := by rw [← hv]; exact getD_end (by omega)
    subst hz
    have i2 : (l.length : Int) ≤ i := by omega
    rw [hv]
    clear h hv
    go_enter Try.func38, Try.ntmps38
    go_wp2
    go_ret
    exact ⟨rfl, rfl⟩
theorem rat_is {w : World} {a : Option Addr} {c : Nat} {l : List Int} (h : RdI .u8 w a c l) (i : Nat) (x v : Int) (hx : x = (i : Int)) (hv : l.getD i 0 = v) (hi : x ≤ 9223372036854775807) :
    Calls Try.prog 38 #[.slice a l.length c, .int .i64 x] w fun e w' => e = .returned (.int .u8 v) ∧ w = w' := by
  subst hx; subst hv; exact rat_walk h i (by omega)

end Go.Proofs.Ytdgiijidgjagbaa
