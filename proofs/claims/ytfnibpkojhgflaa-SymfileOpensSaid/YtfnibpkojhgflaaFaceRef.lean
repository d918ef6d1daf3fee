/- Contracts: is there such a type; is it no open one: here and in the reference. -/
import Derived.Test.YtfnibpkojhgflaaFaceData
import Derived.Test.YtfnibpkojhgflaaSepMore
import Derived.Test.YtfnibpkojhgflaaAnd
import Derived.BigQuiet
import Derived.IntWalk
namespace Go.Proofs.Ytfnibpkojhgflaa
set_option linter.unusedVariables false
set_option linter.unusedSimpArgs false
open Go.RowKit

theorem ref_yes {e : Env} {r : Rf} (h : refP e r) : refB e r = true := decide_eq_true h
theorem ref_no {e : Env} {r : Rf} (h : ¬ refP e r) : refB e r = false := decide_eq_false h

set_option maxHeartbeats 2000000 in
theorem ref_walk (nm : ByteArray) (a1 a2 a3 : Option Addr) (n1 n2 n3 c1 c2 c3 : Nat) (m i : Int) (w : World) (e : Env) (h1 : e.ni = n1) (h2 : e.forms.length = n2) (hn1 : n1 ≤ 9223372036854775807) (hn2 : n2 ≤ 9223372036854775807) (hr : Rf.ok ⟨m, i⟩) :
    Calls Try.prog 61 #[.agg #[.string nm, .slice a1 n1 c1, .slice a2 n2 c2, .slice a3 n3 c3], .agg #[.int .i64 m, .int .i64 i]] w fun e' w' => e' = .returned (.bool (refB e ⟨m, i⟩)) ∧ Below w.heap.size w w' := by
  obtain ⟨⟨m1, m2⟩, i1, i2⟩ := hr
  dsimp only at m1 m2 i1 i2
  have HQ : Hid (refB e ⟨m, i⟩ = decide ((m = 0 ∧ (1 ≤ i ∧ i ≤ 6 ∨ 16 ≤ i ∧ i < 16 + (n2 : Int) ∧ i ≤ 255)) ∨ (1 ≤ m ∧ m ≤ (n1 : Int) ∧ 16 ≤ i ∧ i ≤ 255))) := Lib.hid (decide_eq_decide.2 (by unfold refP; rw [h1, h2]))
  clear h1 h2
  go_enter Try.func61, Try.ntmps61
  go_wp2
  all_goals (go_ret; refine ⟨ret_bool ?_, bel2 _ _ _⟩; rw [HQ.out]; clear HQ; (first | refine decide_eq_decide.2 ?_ | refine (decide_eq_false ?_).symm | refine (decide_eq_true ?_).symm); (try simp at *); omega)

set_option maxHeartbeats 2000000 in
theorem mayRef_walk (nm : ByteArray) (a1 a2 a3 : Option Addr) (n1 n2 n3 c1 c2 c3 : Nat) (m i : Int) (w : World) (e : Env) (h1 : e.ni = n1) (h2 : e.forms.length = n2) (hn1 : n1 ≤ 9223372036854775807) (hn2 : n2 ≤ 100000000000) (hr : Rf.ok ⟨m, i⟩) :
    Calls Try.prog 66 #[.agg #[.string nm, .slice a1 n1 c1, .slice a2 n2 c2, .slice a3 n3 c3], .agg #[.int .i64 m, .int .i64 i]] w fun e' w' => e' = .returned (.bool (refB e ⟨m, i⟩)) ∧ Below w.heap.size w w' := by
  obtain ⟨⟨m1, m2⟩, i1, i2⟩ := hr
  dsimp only at m1 m2 i1 i2
  have HQ : Hid (refB e ⟨m, i⟩ = decide ((m = 0 ∧ (1 ≤ i ∧ i ≤ 6 ∨ 16 ≤ i ∧ i < 16 + (n2 : Int) ∧ i ≤ 255)) ∨ (1 ≤ m ∧ m ≤ (n1 : Int) ∧ 16 ≤ i ∧ i ≤ 255))) := Lib.hid (decide_eq_decide.2 (by unfold refP; rw [h1, h2]))
  clear h1 h2
  go_enter Try.func66, Try.ntmps66
  go_wp2
  all_goals (go_ret; refine ⟨ret_bool ?_, bel2 _ _ _⟩; rw [HQ.out]; clear HQ; (try simp only [← Bool.decide_and, ← Bool.decide_or]); (first | refine decide_eq_decide.2 ?_ | refine (decide_eq_false ?_).symm | refine (decide_eq_true ?_).symm); (try simp at *); omega)
end Go.Proofs.Ytfnibpkojhgflaa
