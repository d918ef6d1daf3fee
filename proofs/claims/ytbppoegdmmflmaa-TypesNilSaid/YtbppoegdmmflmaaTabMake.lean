/- A table of types: arrays, records, pointers. -/
import Derived.Test.YtbppoegdmmflmaaTabAdd
namespace Go.Proofs.Ytbppoegdmmflmaa
set_option linter.unusedVariables false
set_option linter.unusedSimpArgs false
open Go.RowKit

theorem AddIs.intro {B g : Nat} {L : List Ty} {nf : Int} {R : List Row} {x : Ty} {w w' : World} {e : Ending} (h1 : e = .returned (.tuple #[.int .i64 (addN L), .int .i64 (addE L)])) (h2 : Tab B w' g (addL L x) nf R ∧ Below B w w') : AddIs B g L nf R x w e w' := ⟨h1, h2⟩

set_option maxHeartbeats 2000000 in
theorem record_walk {B : Nat} {w : World} {g : Nat} {L : List Ty} {nf : Int} {R : List Row} (T : Tab B w g L nf R) (hB : B ≤ w.heap.size) (h1 : 1 ≤ L.length) :
    Calls Try.prog 12 #[.pointer (some ⟨g, 0, none⟩)] w (AddIs B g L nf R ⟨2, 0, 0, 0, none, 0, 0, 0, 0⟩ w) := by
  have HC := Lib.hid (add_walk T ⟨2, 0, 0, 0, none, 0, 0, 0, 0⟩ hB h1)
  clear T hB h1
  go_enter Try.func12, Try.ntmps12
  go_wp2_with fail
  refine HC.out.mono ?_
  rintro e w' ⟨rfl, hr⟩
  have HR := Lib.hid hr
  clear hr
  go_wp2_with fail
  go_ret2
  exact ⟨rfl, HR.out⟩

def arrOk (L : List Ty) (len base : Int) : Prop := inB L base = true ∧ 1 ≤ len ∧ len ≤ 65535 ∧ 1 ≤ sizeB L base ∧ len ≤ 262144 / sizeB L base
instance (L : List Ty) (len base : Int) : Decidable (arrOk L len base) := by unfold arrOk; exact inferInstance
def arrTy (L : List Ty) (len base : Int) : Ty := ⟨1, base, len, upB (len * sizeB L base), none, 0, 0, 0, 0⟩
def ArrIs (B : Nat) (g : Nat) (L : List Ty) (nf : Int) (R : List Row) (len base : Int) (w : World) (e : Ending) (w' : World) : Prop :=
  (arrOk L len base → AddIs B g L nf R (arrTy L len base) w e w') ∧ (¬ arrOk L len base → e = .returned (.tuple #[.int .i64 0, .int .i64 30]) ∧ w' = w)

theorem quo_pos {a b : Int} (ha : 0 ≤ a) : a.tdiv b = a / b ∨ b < 0 := by
  by_cases hb : 0 ≤ b
  · exact .inl (Int.tdiv_eq_ediv_of_nonneg ha)
  · exact .inr (by omega)

set_option maxHeartbeats 2000000 in
theorem array_walk {B : Nat} {w : World} {g : Nat} {L : List Ty} {nf : Int} {R : List Row} (T : Tab B w g L nf R) (hB : B ≤ w.heap.size) (h1 : 1 ≤ L.length) (len base : Int) (hs : sizeB L base ≤ 9223372036854775807) :
    Calls Try.prog 10 #[.pointer (some ⟨g, 0, none⟩), .int .i64 len, .int .i64 base] w (ArrIs B g L nf R len base w) := by
  have HZ := Lib.hid (size_walk T base)
  have HI := Lib.hid (in_walk T base)
  have HC := Lib.hid (add_walk T (arrTy L len base) hB h1)
  clear T hB h1
  go_enter Try.func10, Try.ntmps10
  go_wp2_with fail
  refine HZ.out.mono ?_
  rintro e w' ⟨rfl, rfl⟩
  obtain ⟨s, hsz⟩ : ∃ s, s = sizeB L base := ⟨_, rfl⟩
  rw [← hsz] at hs ⊢
  have HS := Lib.hid hsz
  clear hsz
  go_wp2_with fail
  refine HI.out.mono ?_
  rintro e w'' ⟨rfl, rfl⟩
  cases hi : inB L base with
  | false =>
    have hno : ¬ arrOk L len base := fun h => by rw [h.1] at hi; cases hi
    have HN := Lib.hid hno
    clear hno
    go_wp2_with fail
    go_ret2
    exact ⟨fun h => (HN.out h).elim, fun _ => ⟨rfl, rfl⟩⟩
  | true =>
    have HI2 := Lib.hid hi
    clear hi
    by_cases h1 : 1 ≤ len
    · by_cases h2 : len ≤ 65535
      · by_cases h3 : 1 ≤ s
        · by_cases h4 : len ≤ 262144 / s
          · have hok : arrOk L len base := ⟨HI2.out, h1, h2, by rw [← HS.out]; exact h3, by rw [← HS.out]; exact h4⟩
            have HN := Lib.hid hok
            clear hok
            have m1 : len * s ≤ 262144 := by
              have := Int.mul_le_of_le_ediv (by omega) h4
              exact this
            have m2 : 0 ≤ len * s := Int.mul_nonneg (by omega) (by omega)
            have q1 : Int.tdiv 262144 s = 262144 / s := Int.tdiv_eq_ediv_of_nonneg (by omega)
            have q2 : 262144 / s ≤ 262144 := Int.ediv_le_self _ (by omega)
            have z1 : (s == 0) = false := by simp; omega
            go_wp2_with fail
            refine (up_walk (len * s) _ ⟨m2, by omega⟩).mono ?_
            rintro e w3 ⟨rfl, rfl⟩
            have harr : arrTy L len base = ⟨1, base, len, upB (len * s), none, 0, 0, 0, 0⟩ := by unfold arrTy; rw [HS.out]
            have HC2 := HC.out
            rw [harr] at HC2
            have HC3 := Lib.hid HC2
            have HA := Lib.hid harr
            clear HC2 harr
            go_wp2_with fail
            refine HC3.out.mono ?_
            rintro e w4 ⟨rfl, hr⟩
            have HR := Lib.hid hr
            clear hr
            go_wp2_with fail
            go_ret2
            refine ⟨fun _ => ?_, fun h => (h HN.out).elim⟩
            rw [HA.out]
            exact ⟨rfl, HR.out⟩
          · have HN := Lib.hid (show ¬ arrOk L len base from fun h => by have := h.2.2.2.2; rw [← HS.out] at this; exact h4 this)
            have q1 : Int.tdiv 262144 s = 262144 / s := Int.tdiv_eq_ediv_of_nonneg (by omega)
            have q2 : 262144 / s ≤ 262144 := Int.ediv_le_self _ (by omega)
            have z1 : (s == 0) = false := by simp; omega
            obtain ⟨q, hq⟩ : ∃ q, q = 262144 / s := ⟨_, rfl⟩
            rw [← hq] at q1 q2 h4
            have h5 : q < len := by omega
            have q3 : 0 ≤ q := by rw [hq]; exact Int.ediv_nonneg (by omega) (by omega)
            clear h4 hq
            go_wp2_with fail
            go_ret2
            exact ⟨fun h => (HN.out h).elim, fun _ => ⟨rfl, rfl⟩⟩
        · have HN := Lib.hid (show ¬ arrOk L len base from fun h => by have := h.2.2.2.1; rw [← HS.out] at this; exact h3 this)
          go_wp2_with fail
          go_ret2
          exact ⟨fun h => (HN.out h).elim, fun _ => ⟨rfl, rfl⟩⟩
      · have HN := Lib.hid (show ¬ arrOk L len base from fun h => by exact h2 h.2.2.1)
        go_wp2_with fail
        go_ret2
        exact ⟨fun h => (HN.out h).elim, fun _ => ⟨rfl, rfl⟩⟩
    · have HN := Lib.hid (show ¬ arrOk L len base from fun h => by exact h1 h.2.1)
      go_wp2_with fail
      go_ret2
      exact ⟨fun h => (HN.out h).elim, fun _ => ⟨rfl, rfl⟩⟩

end Go.Proofs.Ytbppoegdmmflmaa
