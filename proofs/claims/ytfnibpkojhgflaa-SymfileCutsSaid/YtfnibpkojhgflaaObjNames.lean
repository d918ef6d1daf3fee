/- Contracts: the module's name that may be, here and in the reference; the object file's name. -/
import Derived.Test.YtfnibpkojhgflaaRows
import Derived.Test.YtfnibpkojhgflaaProg
import Derived.Test.YtfnibpkojhgflaaLibA
import Derived.BigQuiet
import Derived.Deep.QuietTactic
namespace Go.Proofs.Ytfnibpkojhgflaa
set_option linter.unusedVariables false
set_option linter.unusedSimpArgs false
open Go.RowKit

theorem str_same {x y : ByteArray} (h : x = y) : (x.toList == y.toList) = true := by subst h; simp
theorem str_other {x y : ByteArray} (h : x ≠ y) : (x.toList == y.toList) = false := by
  rw [beq_eq_false_iff_ne]
  intro e
  rw [ByteArray.toList_eq, ByteArray.toList_eq] at e
  exact h (ByteArray.ext (Array.toList_inj.1 e))

/-- a byte that a name may have at a place. -/
def nameAt (k : Nat) (c : Nat) : Bool := decide ((65 ≤ c ∧ c ≤ 90 ∨ 97 ≤ c ∧ c ≤ 122) ∨ (0 < k ∧ 48 ≤ c ∧ c ≤ 57))
/-- all that bytes from a place on are such. -/
def namesOk : Nat → List UInt8 → Bool
  | _, [] => true
  | k, c :: l => nameAt k c.toNat && namesOk (k + 1) l
def mayName (s : ByteArray) : Bool := namesOk 0 s.data.toList && decide (1 ≤ s.size ∧ s.size ≤ 15)

theorem namesOk_step (s : ByteArray) (k : Nat) (h : k < s.size) : namesOk k (s.data.toList.drop k) = (nameAt k s[k].toNat && namesOk (k + 1) (s.data.toList.drop (k + 1))) := by
  rw [List.drop_eq_getElem_cons (by simpa using h)]; rfl

/-- the loop stands at a place: all is as what is left. -/
def NameTo (s : ByteArray) (k : Nat) : Prop := namesOk 0 s.data.toList = namesOk k (s.data.toList.drop k)
theorem NameTo.start (s : ByteArray) : NameTo s 0 := rfl
theorem NameTo.next {s : ByteArray} {k : Nat} (h : NameTo s k) (hk : k < s.size) (hc : nameAt k s[k].toNat = true) : NameTo s (k + 1) := by
  unfold NameTo at *; rw [h, namesOk_step s k hk, hc]; rfl
theorem NameTo.bad {s : ByteArray} {k : Nat} (h : NameTo s k) (hk : k < s.size) (hc : nameAt k s[k].toNat = false) : mayName s = false := by
  unfold NameTo at h; unfold mayName; rw [h, namesOk_step s k hk, hc]; rfl
theorem NameTo.done {s : ByteArray} {k : Nat} (h : NameTo s k) (hk : s.size ≤ k) : mayName s = decide (1 ≤ s.size ∧ s.size ≤ 15) := by
  unfold NameTo at h; unfold mayName; rw [h, List.drop_of_length_le (by simpa using hk)]; rfl
theorem at_yes {k c : Nat} (h : (65 ≤ c ∧ c ≤ 90 ∨ 97 ≤ c ∧ c ≤ 122) ∨ (0 < k ∧ 48 ≤ c ∧ c ≤ 57)) : nameAt k c = true := by simpa [nameAt] using h
theorem at_no {k c : Nat} (h : ¬ ((65 ≤ c ∧ c ≤ 90 ∨ 97 ≤ c ∧ c ≤ 122) ∨ (0 < k ∧ 48 ≤ c ∧ c ≤ 57))) : nameAt k c = false := by simpa [nameAt] using h

theorem NameTo.fin1 {s : ByteArray} {k : Nat} (h : NameTo s k) (hk : s.size ≤ k) (h1 : 1 ≤ (s.size : Int)) : decide ((s.size : Int) ≤ 15) = mayName s := by
  rw [h.done hk, decide_eq_decide]; omega
theorem NameTo.fin2 {s : ByteArray} {k : Nat} (h : NameTo s k) (hk : s.size ≤ k) (h1 : (s.size : Int) < 1) : false = mayName s := by
  rw [h.done hk]; symm; rw [decide_eq_false_iff_not]; omega

set_option maxHeartbeats 1000000 in
theorem refMayName_any (s : ByteArray) (w : World) (hs : s.size ≤ maxLen) :
    Calls Try.prog 64 #[.string s] w fun e w' => e = .returned (.bool (mayName s)) ∧ w = w' := by
  unfold maxLen at hs
  go_enter Try.func64, Try.ntmps64
  go_wp2
  go_loop [3] (fun i => ∃ k : Nat, k ≤ s.size ∧ i = .int .i64 k ∧ NameTo s k) (fun i => s.size - (intOf i).toNat)
  case atStart => exact ⟨0, Nat.zero_le _, rfl, NameTo.start s⟩
  case round =>
    obtain ⟨k, hk, rfl, hN⟩ := hrel
    have HN := Lib.hid hN; clear hN
    by_cases hlt : k < s.size
    · go_wp2
      all_goals first
        | (go_round; (case rel => exact ⟨k + 1, by omega, by go_num, HN.out.next hlt (at_yes (by simp at *; omega))⟩); (case measure => simp [intOf]; omega))
        | (go_ret; exact ⟨ret_bool (HN.out.bad hlt (at_no (by simp at *; omega))).symm, rfl⟩)
    · go_wp2
      all_goals (go_ret; (first | exact ⟨ret_bool (HN.out.fin1 (by omega) (by omega)), rfl⟩ | exact ⟨ret_bool (HN.out.fin2 (by omega) (by omega)), rfl⟩))

set_option maxHeartbeats 1000000 in
theorem mayName_any (s : ByteArray) (w : World) (hs : s.size ≤ maxLen) :
    Calls Try.prog 56 #[.string s] w fun e w' => e = .returned (.bool (mayName s)) ∧ w = w' := by
  unfold maxLen at hs
  go_enter Try.func56, Try.ntmps56
  go_wp2
  go_loop [3, 4, 5, 8] (fun _ _ _ i => ∃ k : Nat, k ≤ s.size ∧ i = .int .i64 k ∧ NameTo s k) (fun _ _ _ i => s.size - (intOf i).toNat)
  case atStart => exact ⟨0, Nat.zero_le _, rfl, NameTo.start s⟩
  case round =>
    obtain ⟨k, hk, rfl, hN⟩ := hrel
    have HN := Lib.hid hN; clear hN
    by_cases hlt : k < s.size
    · go_wp2
      all_goals first
        | (go_round; (case rel => exact ⟨k + 1, by omega, by go_num, HN.out.next hlt (at_yes (by simp at *; omega))⟩); (case measure => simp [intOf]; omega))
        | (go_ret; exact ⟨ret_bool (HN.out.bad hlt (at_no (by simp at *; omega))).symm, rfl⟩)
        | (exfalso; (have h0 : k = 0 := by assumption); subst h0; simp at *; omega)
    · go_wp2
      all_goals (go_ret; (first | exact ⟨ret_bool (HN.out.fin1 (by omega) (by omega)), rfl⟩ | exact ⟨ret_bool (HN.out.fin2 (by omega) (by omega)), rfl⟩))

end Go.Proofs.Ytfnibpkojhgflaa
