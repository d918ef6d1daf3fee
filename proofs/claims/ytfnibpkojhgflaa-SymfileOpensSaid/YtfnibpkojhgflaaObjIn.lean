/- Contracts: the closures of object.May, and slices.ContainsFunc over numbers with them. -/
import Derived.Test.YtfnibpkojhgflaaObjMay0
import Derived.Test.YtfnibpkojhgflaaSepMore
import Derived.Test.YtfnibpkojhgflaaMixR
namespace Go.Proofs.Ytfnibpkojhgflaa
set_option linter.unusedVariables false
set_option linter.unusedSimpArgs false
open Go.RowKit

theorem in_walk (x : Int) (g n : Nat) (a : Option Addr) (c : Nat) (w : World) (hc : w.cell? ⟨g, 5, none⟩ = some (.slice a n c)) :
    Calls Try.prog 52 #[.int .i64 x, .pointer (some ⟨g, 0, none⟩)] w fun e w' => e = .returned (.bool (inN n x)) ∧ w = w' := by
  by_cases h : 0 ≤ x
  · have HE : Hid (decide (x < n) = inN n x) := Lib.hid (decide_eq_decide.2 (by omega))
    go_enter Try.func52, Try.ntmps52
    go_wp2
    go_ret
    exact ⟨ret_bool HE.out, rfl⟩
  · have HE : Hid (false = inN n x) := Lib.hid (decide_eq_false (by omega)).symm
    go_enter Try.func52, Try.ntmps52
    go_wp2
    go_ret
    exact ⟨ret_bool HE.out, rfl⟩
theorem out_walk (x : Int) (g3 g n : Nat) (a : Option Addr) (c : Nat) (w : World) (hf : w.cell? ⟨g3, 0, none⟩ = some (.func (.func 52) #[] #[.pointer (some ⟨g, 0, none⟩)])) (hc : w.cell? ⟨g, 5, none⟩ = some (.slice a n c)) :
    Calls Try.prog 54 #[.int .i64 x, .pointer (some ⟨g3, 0, none⟩)] w fun e w' => e = .returned (.bool (!inN n x)) ∧ w = w' := by
  have HI := Lib.hid (in_walk x g n a c w hc)
  go_enter Try.func54, Try.ntmps54
  go_wp2_with (refine HI.out.mono ?_; rintro e w1 ⟨rfl, rfl⟩)
  go_ret
  exact ⟨rfl, rfl⟩

def WhereI (m : List Int) (p : Int → Bool) (r : Int) : Prop := (r = -1 ∧ ∀ (j : Nat) (y : Int), m[j]? = some y → p y = false) ∨ (0 ≤ r ∧ ∃ (j : Nat) (y : Int), m[j]? = some y ∧ p y = true)

set_option maxHeartbeats 1000000 in
theorem indexInt_walk (m : Sl Int) (g3 g n : Nat) (a : Option Addr) (c : Nat) (w : World) (hm : Rows (intD .i64) w m) (hf : w.cell? ⟨g3, 0, none⟩ = some (.func (.func 52) #[] #[.pointer (some ⟨g, 0, none⟩)])) (hc : w.cell? ⟨g, 5, none⟩ = some (.slice a n c)) :
    Calls Try.prog 73 #[.slice m.a m.l.length m.c, .func (.func 54) #[] #[.pointer (some ⟨g3, 0, none⟩)]] w fun e w' => (∃ r : Int, e = .returned (.int .i64 r) ∧ WhereI m.l (fun x => !inN n x) r) ∧ w = w' := by
  have hlen := hm.len
  obtain ⟨b, o, hat, hcell⟩ := hm.at'
  have HAt := Lib.hid hat
  have HC := Lib.hid hcell
  have HO := Lib.hid (fun x => out_walk x g3 g n a c w hf hc)
  clear hat hcell hm hf hc
  obtain ⟨la, lc, m⟩ := m
  dsimp only at HAt HC hlen
  go_enter Try.func73, Try.ntmps73
  go_wp2_with fail
  go_loop [5, 8] (fun _ i => ∃ k : Nat, k ≤ m.length ∧ i = .int .i64 k ∧ (∀ (j : Nat) (y : Int), j < k → m[j]? = some y → inN n y = true)) (fun _ i => m.length - (intOf i).toNat)
  case atStart => exact ⟨0, Nat.zero_le _, rfl, fun j y h => by omega⟩
  case round =>
    obtain ⟨k, hk, rfl, hj⟩ := hrel
    have HJ := Lib.hid hj
    clear hj
    by_cases hlt : k < m.length
    · obtain ⟨x, hx⟩ := get_lt hlt
      obtain ⟨rfl, hb⟩ := HAt.out (by omega)
      have ce : w.cell? ⟨b, o + k, none⟩ = some (.int .i64 x) := by
        have := HC.out k x hx 0 (.int .i64 x) rfl
        rwa [show o + k * (intD .i64).size + 0 = o + k from by show o + k * 1 + 0 = _; omega] at this
      have HX := Lib.hid hx
      have HLT := Lib.hid hlt
      clear hx hb
      cases hq : inN n x with
      | true =>
        have HQ := Lib.hid hq
        clear hq
        go_wp2_with (refine (HO.out x).mono ?_; rw [HQ.out]; rintro e w1 ⟨rfl, rfl⟩)
        go_round
        case rel =>
          refine ⟨k + 1, HLT.out, by go_num, fun j y hj hy => ?_⟩
          rcases Nat.lt_or_ge j k with h | h
          · exact HJ.out j y h hy
          · obtain rfl : j = k := by omega
            rw [HX.out] at hy; cases hy; exact HQ.out
        case measure => simp [intOf]; have := HLT.out; omega
      | false =>
        have HQ := Lib.hid hq
        have HW : Hid (WhereI m (fun x => !inN n x) k) := Lib.hid (.inr ⟨by omega, k, x, HX.out, by show (!inN n x) = true; rw [hq]; rfl⟩)
        clear hq
        go_wp2_with (refine (HO.out x).mono ?_; rw [HQ.out]; rintro e w1 ⟨rfl, rfl⟩)
        go_ret
        exact ⟨⟨_, rfl, HW.out⟩, rfl⟩
    · have HW : Hid (WhereI m (fun x => !inN n x) (-1)) := Lib.hid (.inl ⟨rfl, fun j y hy => by show (!inN n y) = false; rw [HJ.out j y (by have := (List.getElem?_eq_some_iff.1 hy).1; omega) hy]; rfl⟩)
      clear hk
      go_wp2
      go_ret
      exact ⟨⟨_, rfl, HW.out⟩, rfl⟩

theorem containsInt_walk (m : Sl Int) (g3 g n : Nat) (a : Option Addr) (c : Nat) (w : World) (hm : Rows (intD .i64) w m) (hf : w.cell? ⟨g3, 0, none⟩ = some (.func (.func 52) #[] #[.pointer (some ⟨g, 0, none⟩)])) (hc : w.cell? ⟨g, 5, none⟩ = some (.slice a n c)) :
    Calls Try.prog 53 #[.slice m.a m.l.length m.c, .func (.func 54) #[] #[.pointer (some ⟨g3, 0, none⟩)]] w fun e w' => e = .returned (.bool (!(m.l.all (inN n)))) ∧ w = w' := by
  have HI := Lib.hid (indexInt_walk m g3 g n a c w hm hf hc)
  have HA : Hid (∀ r, WhereI m.l (fun x => !inN n x) r → decide (0 ≤ r) = !(m.l.all (inN n))) := Lib.hid (fun r h => by
    rcases h with ⟨rfl, h⟩ | ⟨h0, j, y, hy, h⟩
    · have : m.l.all (inN n) = true := by
        rw [List.all_eq_true]
        intro y hy
        obtain ⟨j, hj⟩ := List.mem_iff_getElem?.1 hy
        simpa using h j y hj
      rw [this]; rfl
    · have : m.l.all (inN n) = false := by
        rw [Bool.eq_false_iff]
        intro ha
        rw [List.all_eq_true] at ha
        have := ha y (List.mem_of_getElem? hy)
        simp only [this] at h
        cases h
      rw [this, decide_eq_true h0]; rfl)
  clear hm hf hc
  go_enter Try.func53, Try.ntmps53
  go_wp2_with (refine HI.out.mono ?_; rintro e w1 ⟨⟨r, rfl, hr⟩, rfl⟩; have HR := Lib.hid (HA.out r hr); clear hr)
  go_ret
  exact ⟨ret_bool HR.out, rfl⟩
end Go.Proofs.Ytfnibpkojhgflaa
