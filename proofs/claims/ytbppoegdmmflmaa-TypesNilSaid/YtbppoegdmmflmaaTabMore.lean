/- A table of types: sizes, forms, what is added. -/
import Derived.Test.YtbppoegdmmflmaaTab
import Derived.Test.YtbppoegdmmflmaaTailK
namespace Go.Proofs.Ytbppoegdmmflmaa
set_option linter.unusedVariables false
set_option linter.unusedSimpArgs false
open Go.RowKit

def Ty.none : Ty := ⟨0, 0, 0, 0, Option.none, 0, 0, 0, 0⟩
def tyAt (L : List Ty) (n : Int) : Ty := L.getD n.toNat Ty.none
def sizeB (L : List Ty) (n : Int) : Int := if inB L n then (tyAt L n).size else 0
def madeB (L : List Ty) (n f : Int) : Bool := inB L n && decide ((tyAt L n).form = f)

theorem in_get {L : List Ty} {n : Int} (h : inB L n = true) : ∃ k t, n = ((k : Nat) : Int) ∧ L[k]? = some t ∧ tyAt L n = t ∧ k < L.length := by
  unfold inB at h
  simp only [Bool.and_eq_true, decide_eq_true_eq] at h
  have hk : n.toNat < L.length := by omega
  exact ⟨n.toNat, L[n.toNat], by omega, List.getElem?_eq_getElem hk, by unfold tyAt; rw [List.getD_eq_getElem?_getD, List.getElem?_eq_getElem hk]; rfl, hk⟩

set_option maxHeartbeats 2000000 in
theorem size_walk {B : Nat} {w : World} {g : Nat} {L : List Ty} {nf : Int} {R : List Row} (T : Tab B w g L nf R) (n : Int) :
    Calls Try.prog 9 #[.pointer (some ⟨g, 0, none⟩), .int .i64 n] w fun e w' => e = .returned (.int .i64 (sizeB L n)) ∧ w' = w := by
  obtain ⟨h, cap, c0, _, hm, hc⟩ := T.cells
  have HT := Lib.hid T
  clear T
  go_enter Try.func9, Try.ntmps9
  go_wp2_with fail
  refine (in_walk HT.out n).mono ?_
  rintro e w' ⟨rfl, rfl⟩
  cases hi : inB L n with
  | false =>
    go_wp2_with fail
    go_ret
    exact ⟨by unfold sizeB; rw [hi]; rfl, rfl⟩
  | true =>
    obtain ⟨k, t, rfl, hk, ht, hlt⟩ := in_get hi
    have c3 := hc k t hk 3 _ rfl
    have l1 : (0 : Int) ≤ k := by omega
    have l2 : (k : Int) < L.length := by omega
    have hz : sizeB L (k : Int) = t.size := by unfold sizeB; rw [hi, ht]; rfl
    have HZ := Lib.hid hz
    clear hc hk ht hi hz
    go_wp2_with fail
    go_ret
    exact ⟨by rw [HZ.out]; rfl, rfl⟩

set_option maxHeartbeats 2000000 in
theorem made_walk {B : Nat} {w : World} {g : Nat} {L : List Ty} {nf : Int} {R : List Row} (T : Tab B w g L nf R) (n f : Int) :
    Calls Try.prog 37 #[.pointer (some ⟨g, 0, none⟩), .int .i64 n, .int .i64 f] w fun e w' => e = .returned (.bool (madeB L n f)) ∧ w' = w := by
  obtain ⟨h, cap, c0, _, hm, hc⟩ := T.cells
  have HT := Lib.hid T
  clear T
  go_enter Try.func37, Try.ntmps37
  go_wp2_with fail
  refine (in_walk HT.out n).mono ?_
  rintro e w' ⟨rfl, rfl⟩
  cases hi : inB L n with
  | false =>
    go_wp2_with fail
    go_ret
    exact ⟨by unfold madeB; rw [hi]; rfl, rfl⟩
  | true =>
    obtain ⟨k, t, rfl, hk, ht, hlt⟩ := in_get hi
    have c3 : w'.cell? ⟨h, k * 7, none⟩ = some (.int .i64 t.form) := hc k t hk 0 _ rfl
    have l1 : (0 : Int) ≤ k := by omega
    have l2 : (k : Int) < L.length := by omega
    have hz : madeB L (k : Int) f = decide (t.form = f) := by unfold madeB; rw [hi, ht]; rfl
    have HZ := Lib.hid hz
    clear hc hk ht hi hz
    go_wp2_with fail
    go_ret
    exact ⟨by rw [HZ.out]; rfl, rfl⟩

def upB (n : Int) : Int := (n + 3) / 4 * 4
set_option maxHeartbeats 2000000 in
theorem up_walk (n : Int) (w : World) (h : 0 ≤ n ∧ n ≤ 4611686018427387904) :
    Calls Try.prog 32 #[.int .i64 n] w fun e w' => e = .returned (.int .i64 (upB n)) ∧ w' = w := by
  unfold upB
  go_enter Try.func32, Try.ntmps32
  go_wp2_with fail
  go_ret
  refine ⟨?_, rfl⟩
  rfl

theorem len_walk {B : Nat} {w : World} {g : Nat} {L : List Ty} {nf : Int} {R : List Row} (T : Tab B w g L nf R) (h1 : 1 ≤ L.length) :
    Calls Try.prog 15 #[.pointer (some ⟨g, 0, none⟩)] w fun e w' => e = .returned (.int .i64 ((L.length : Int) - 1)) ∧ w' = w := by
  obtain ⟨h, cap, c0, _, hm, hc⟩ := T.cells
  have i0 : ((L.length : Int) == 0) = false := by simp; intro h; rw [h] at h1; simp at h1
  clear T hc
  have i1 : (L.length : Int) ≤ 9223372036854775807 := by unfold maxLen at hm; omega
  have i2 : (1 : Int) ≤ L.length := by omega
  go_enter Try.func15, Try.ntmps15
  go_wp2_with fail
  go_ret
  refine ⟨?_, rfl⟩
  rfl

end Go.Proofs.Ytbppoegdmmflmaa
