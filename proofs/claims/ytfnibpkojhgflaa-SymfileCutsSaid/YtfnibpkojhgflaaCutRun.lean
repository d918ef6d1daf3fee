/- 's[i:j]' of a slice that reads as numbers, whatever lies behind it. Over whatever program. -/
import Derived.Test.YtfnibpkojhgflaaLibA
namespace Go.Proofs.Ytfnibpkojhgflaa
set_option linter.unusedVariables false
set_option linter.unusedSimpArgs false
open Go.RowKit

def cutV (a : Option Addr) (c i : Nat) : Option Addr := match a with | some ⟨b, o, sp⟩ => if c = i then some ⟨b, o, sp⟩ else some ⟨b, o + i, sp⟩ | none => none

theorem RdI.window {k : IntKind} {w : World} {a : Option Addr} {c : Nat} {l : List Int} (h : RdI k w a c l) (i j : Nat) (hij : i ≤ j) (hj : j ≤ l.length) (hsp : ∀ x, a = some x → x.spot = none) :
    RdI k w (cutV a c i) (c - i) ((l.drop i).take (j - i)) ∧ ((l.drop i).take (j - i)).length = j - i := by
  have hlen : ((l.drop i).take (j - i)).length = j - i := by rw [List.length_take, List.length_drop]; omega
  refine ⟨?_, hlen⟩
  cases a with
  | none =>
    obtain ⟨h0, rfl⟩ := h.row.nil rfl
    have : l = [] := List.length_eq_zero_iff.1 h0
    subst this
    simp [cutV]
    exact ⟨RdC.nilSlice w, fun x hx => by cases hx⟩
  | some x =>
    obtain ⟨b, o, sp⟩ := x
    have hs := hsp _ rfl
    simp only at hs
    subst hs
    have hd := h.drop i (by omega)
    have e : cutV (some ⟨b, o, none⟩) c i = if c = i then some ⟨b, o, none⟩ else some ⟨b, o + i, none⟩ := rfl
    rw [e]
    by_cases hc : c = i
    · rw [if_pos hc] at hd ⊢
      exact (hd.1.take (j - i) (by rw [List.length_drop]; omega)).1
    · rw [if_neg hc] at hd ⊢
      exact (hd.1.take (j - i) (by rw [List.length_drop]; omega)).1

theorem run_cut {P : Program} {t e : TypeId} (ht : P.underlying t = some (.slice e)) (hz : ∀ w, (Go.sizeOf e).run P w = .ok 1 w) {a : Option Addr} {c len i j : Nat} (hij : i ≤ j) (hj : j ≤ len) (hc : len ≤ c) (hn : a = none → c = 0) (hsp : ∀ x, a = some x → x.spot = none) (W : World) :
    (Instr.slice t (.slice a len c) (some (.int .i64 (i : Int))) (some (.int .i64 (j : Int))) none).run P W = .ok (.slice (cutV a c i) (j - i) (c - i)) W := by
  have ht' : P.underlying t = some (.slice (P.elem t)) := by simp [Program.elem, ht]
  have he : P.elem t = e := by simp [Program.elem, ht]
  rw [run_slice_lh W t _ _ _ ht' .i64 .i64 _ _ (by omega) (by omega) (by omega), he, hz]
  simp only [Result.andThen_ok, Int.toNat_natCast]
  unfold sliced cutV
  cases a with
  | none =>
    have := hn rfl
    subst this
    have h1 : i = 0 := by omega
    have h2 : j = 0 := by omega
    subst h1 h2
    rfl
  | some x =>
    obtain ⟨b, o, sp⟩ := x
    have hs := hsp _ rfl
    simp only at hs
    subst hs
    by_cases h0 : c = i
    · simp [h0]
    · by_cases h1 : i = 0
      · subst h1; simp [h0, Addr.add]
      · simp [h0, Addr.add, h1]

end Go.Proofs.Ytfnibpkojhgflaa
