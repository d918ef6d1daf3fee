/- Contract: opens. -/
import Derived.Test.YtdgiijidgjagbaaScanQuiet
import Derived.IntWalk
namespace Go.Proofs.Ytdgiijidgjagbaa
set_option linter.unusedVariables false
set_option linter.unusedSimpArgs false
open Go.RowKit

set_option maxHeartbeats 4000000 in
theorem opens_walk {F : Nat → Prop} {w : World} {g : Nat} {s : Sc} {a : Option Addr} {c : Nat} {n : Value} {m : Nat} (H : ScnX F w g s a c n m) (hlt : s.at' < s.src.length) :
    Calls Try.prog 43 #[.pointer (some ⟨g, 0, none⟩)] w fun e w' => e = .returned (.bool (opens s.src s.at')) ∧ Below w.heap.size w w' := by
  have c0 : w.cell? ⟨g, 0, none⟩ = some (.slice a s.src.length c) := (H.at'.cell 0).trans rfl
  have c1 : w.cell? ⟨g, 1, none⟩ = some (.int .i64 s.at') := (H.at'.cell 1).trans rfl
  have hln := H.ok.len
  have i1 : (s.src.length : Int) ≤ 65535 := by omega
  have i2 : (0 : Int) ≤ s.at' := by omega
  have i3 : (s.at' : Int) < s.src.length := by omega
  have i4 : (s.at' : Int) ≤ 65535 := by omega
  have q1 : IntKind.i64.wrap ((s.at' : Int) + 1) = (s.at' : Int) + 1 := IntWalk.i64_in _ (by omega)
  have q2 : (0 : Int) ≤ (s.at' : Int) + 1 := by omega
  have q3 : ((s.at' : Int) + 1).toNat = s.at' + 1 := by omega
  obtain ⟨b, rfl, hc⟩ := H.bytes (by omega)
  have hb := hc s.at' hlt
  unfold opens
  obtain ⟨v, hv⟩ : ∃ v, v = s.src.getD s.at' 0 := ⟨_, rfl⟩
  rw [← hv] at hb ⊢
  by_cases h1 : v = 40
  · subst h1
    have d1 : decide ((40 : Int) = 40) = true := rfl
    rw [d1, Bool.true_and]
    by_cases h2 : s.at' + 1 < s.src.length
    · have j1 : (s.at' : Int) + 1 < s.src.length := by omega
      have hb2 := hc (s.at' + 1) h2
      obtain ⟨u, hu⟩ : ∃ u, u = s.src.getD (s.at' + 1) 0 := ⟨_, rfl⟩
      rw [← hu] at hb2 ⊢
      by_cases h3 : u = 42
      · subst h3
        clear H hc hln hv hu h2 d1 hlt
        go_enter Try.func43, Try.ntmps43
        go_wp2
        go_quiet (fail)
        go_wp2
        go_ret
        exact ⟨rfl, belN _ _⟩
      · have d3 : decide (u = 42) = false := decide_eq_false h3
        have d4 : (u == 42) = false := by simpa using h3
        rw [d3]
        clear H hc hln hv hu h2 d1 hlt
        go_enter Try.func43, Try.ntmps43
        go_wp2
        go_quiet (fail)
        go_wp2
        go_ret
        exact ⟨rfl, belN _ _⟩
    · have j1 : decide ((s.at' : Int) + 1 < s.src.length) = false := decide_eq_false (by omega)
      rw [getD_end (s := s.src) (i := s.at' + 1) (by omega), show decide ((0 : Int) = 42) = false from rfl]
      clear H hc hln hv d1 hlt h2
      go_enter Try.func43, Try.ntmps43
      go_wp2
      go_quiet (fail)
      go_wp2
      go_ret
      exact ⟨rfl, belN _ _⟩
  · have d1 : decide (v = 40) = false := decide_eq_false h1
    have d2 : (v == 40) = false := by simpa using h1
    rw [d1, Bool.false_and]
    clear H hc hln hv hlt
    go_enter Try.func43, Try.ntmps43
    go_wp2
    go_quiet (fail)
    go_wp2
    go_ret
    exact ⟨rfl, belN _ _⟩

end Go.Proofs.Ytdgiijidgjagbaa
