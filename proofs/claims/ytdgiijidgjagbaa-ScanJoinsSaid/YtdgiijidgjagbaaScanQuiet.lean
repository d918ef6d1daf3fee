/- Contracts: letter, digit, hex, there. -/
import Derived.Test.YtdgiijidgjagbaaScanAt
import Derived.Deep.QuietTactic
import Derived.BigQuiet
import Derived.WalkSpells
namespace Go.Proofs.Ytdgiijidgjagbaa
set_option linter.unusedVariables false
set_option linter.unusedSimpArgs false
open Go.RowKit


theorem digit_walk (b : Int) (w : World) : Calls Try.prog 32 #[.int .u8 b] w fun e w' => e = .returned (.bool (digitB b)) ∧ w = w' := by
  unfold digitB
  go_enter Try.func32, Try.ntmps32
  by_cases h1 : 48 ≤ b
  · have d1 : decide (48 ≤ b) = true := decide_eq_true h1
    go_wp2
    go_ret
    first | exact ⟨rfl, rfl⟩ | (rw [d1]; simp)
  · have d1 : decide (48 ≤ b) = false := decide_eq_false h1
    go_wp2
    go_ret
    first | exact ⟨rfl, rfl⟩ | (rw [d1]; simp)

theorem letter_walk (b : Int) (w : World) : Calls Try.prog 30 #[.int .u8 b] w fun e w' => e = .returned (.bool (letterB b)) ∧ w = w' := by
  unfold letterB
  go_enter Try.func30, Try.ntmps30
  by_cases h1 : 65 ≤ b
  · have d1 : decide (65 ≤ b) = true := decide_eq_true h1
    by_cases h2 : b ≤ 90
    · have d2 : decide (b ≤ 90) = true := decide_eq_true h2
      go_wp2
      go_ret
      first | exact ⟨rfl, rfl⟩ | (rw [d1, d2]; simp)
    · have d2 : decide (b ≤ 90) = false := decide_eq_false h2
      by_cases h3 : 97 ≤ b
      · have d3 : decide (97 ≤ b) = true := decide_eq_true h3
        go_wp2
        go_ret
        first | exact ⟨rfl, rfl⟩ | (rw [d1, d2, d3]; simp)
      · have d3 : decide (97 ≤ b) = false := decide_eq_false h3
        go_wp2
        go_ret
        first | exact ⟨rfl, rfl⟩ | (rw [d1, d2, d3]; simp)
  · have d1 : decide (65 ≤ b) = false := decide_eq_false h1
    have d3 : decide (97 ≤ b) = false := decide_eq_false (by omega)
    go_wp2
    go_ret
    first | exact ⟨rfl, rfl⟩ | (rw [d1, d3]; simp)

theorem hex_walk (b : Int) (w : World) : Calls Try.prog 44 #[.int .u8 b] w fun e w' => e = .returned (.bool (hexB b)) ∧ w = w' := by
  unfold hexB
  go_enter Try.func44, Try.ntmps44
  cases hd : digitB b
  · by_cases h1 : 65 ≤ b
    · have d1 : decide (65 ≤ b) = true := decide_eq_true h1
      go_wp2_with (refine (digit_walk _ _).mono ?_; rw [hd]; rintro e w' ⟨rfl, rfl⟩)
      go_ret
      first | exact ⟨rfl, rfl⟩ | (rw [d1]; simp)
    · have d1 : decide (65 ≤ b) = false := decide_eq_false h1
      go_wp2_with (refine (digit_walk _ _).mono ?_; rw [hd]; rintro e w' ⟨rfl, rfl⟩)
      go_ret
      first | exact ⟨rfl, rfl⟩ | (rw [d1]; simp)
  · go_wp2_with (refine (digit_walk _ _).mono ?_; rw [hd]; rintro e w' ⟨rfl, rfl⟩)
    go_ret
    first | exact ⟨rfl, rfl⟩ | simp

theorem there_walk {F : Nat → Prop} {w : World} {g : Nat} {s : Sc} {a : Option Addr} {c : Nat} {n : Value} {m : Nat} (H : ScnX F w g s a c n m) :
    Calls Try.prog 27 #[.pointer (some ⟨g, 0, none⟩)] w fun e w' => e = .returned (.bool true) ∧ w = w' := by
  have c8 : w.cell? ⟨g, 8, none⟩ = some (.map (some m)) := (H.at'.cell 8).trans rfl
  have hn : ∀ w, (binOp .neq 50 (.map (some m)) (.map none)).run Try.prog w = .ok (.bool true) w := fun w => run_neq_map_nil w _ _ _ _ Try.underlying50
  clear H
  go_enter Try.func27, Try.ntmps27
  go_wp2
  go_ret
  exact ⟨rfl, rfl⟩

theorem ScnX.bytes {F : Nat → Prop} {w : World} {g : Nat} {s : Sc} {a : Option Addr} {c : Nat} {n : Value} {m : Nat} (H : ScnX F w g s a c n m) (h : 0 < s.src.length) :
    ∃ b, a = some ⟨b, 0, none⟩ ∧ ∀ i, i < s.src.length → w.cell? ⟨b, i, none⟩ = some (.int .u8 (s.src.getD i 0)) := by
  obtain ⟨_, h3⟩ := H.src
  rcases h3 with ⟨_, h4⟩ | ⟨b, cap, cur, he, _, h5, h6, h7, h8, h9⟩
  · omega
  · simp only [Value.slice.injEq] at he
    refine ⟨b, he.1, fun i hi => ?_⟩
    rw [(show At w b cur 5 from h5).cell i]
    have h10 : (cur.toList.take (s.src.length * 1))[i]? = some (.int .u8 (s.src.getD i 0)) := by
      rw [h9, List.getElem?_map, List.getElem?_eq_getElem hi, List.getD_eq_getElem?_getD, List.getElem?_eq_getElem hi]; rfl
    rw [List.getElem?_take] at h10
    split at h10
    · simpa using h10
    · cases h10

theorem belN (w : World) (n : Nat) : Below w.heap.size w (w.drewN n) := by
  induction n with
  | zero => exact Below.refl _ _
  | succ n ih => exact ih.drew

set_option maxHeartbeats 1000000 in
theorem ch_walk {F : Nat → Prop} {w : World} {g : Nat} {s : Sc} {a : Option Addr} {c : Nat} {n : Value} {m : Nat} (H : ScnX F w g s a c n m) :
    Calls Try.prog 29 #[.pointer (some ⟨g, 0, none⟩)] w fun e w' => e = .returned (.int .u8 (s.src.getD s.at' 0)) ∧ Below w.heap.size w w' := by
  have c0 : w.cell? ⟨g, 0, none⟩ = some (.slice a s.src.length c) := (H.at'.cell 0).trans rfl
  have c1 : w.cell? ⟨g, 1, none⟩ = some (.int .i64 s.at') := (H.at'.cell 1).trans rfl
  have hle := H.ok.le
  have hln := H.ok.len
  have i1 : (s.src.length : Int) ≤ 65535 := by omega
  have i2 : (0 : Int) ≤ s.at' := by omega
  by_cases hlt : s.at' < s.src.length
  · obtain ⟨b, rfl, hc⟩ := H.bytes (by omega)
    have hb := hc s.at' hlt
    have i3 : (s.at' : Int) < s.src.length := by omega
    obtain ⟨v, hv⟩ : ∃ v, v = s.src.getD s.at' 0 := ⟨_, rfl⟩
    rw [← hv] at hb ⊢
    clear H hc hle hln hv
    go_enter Try.func29, Try.ntmps29
    go_wp2
    go_quiet (fail)
    go_wp2
    go_quiet (fail)
    go_wp2
    go_ret
    exact ⟨rfl, by first | exact belN _ _ | exact bel_then (belN _ _) (belN _ _)⟩
  · have i3 : ¬ ((s.at' : Int) < s.src.length) := by omega
    have he := getD_end (s := s.src) (i := s.at') (by omega)
    rw [he]
    clear H hle hln he
    go_enter Try.func29, Try.ntmps29
    go_wp2
    go_quiet (fail)
    go_wp2
    go_ret
    exact ⟨rfl, belN _ _⟩

end Go.Proofs.Ytdgiijidgjagbaa
