/- A cut inside a region's list of operations: the ways meet again; slots that nobody reads any more are let go. Over whatever program. -/
import Derived.WalkKit
namespace Go.Proofs.Ytkeaogphaifnmaa
set_option linter.unusedVariables false
set_option linter.unusedSimpArgs false
open Go.RowKit

def setMany (t : Array Value) : List Nat → List Value → Array Value
  | j :: js, v :: vs => setMany (t.setIfInBounds j v) js vs
  | _, _ => t

/-- behind the piece: the world as it was, the frame but for the slots js. -/
def Junk (a : Act) (w : World) (js : List Nat) (a' : Act) (w' : World) : Prop := w' = w ∧ ∃ vs : List Value, vs.length = js.length ∧ a' = ⟨setMany a.tmps js vs, a.defers⟩

def AllVals : Nat → (List Value → Prop) → Prop
  | 0, p => p []
  | k + 1, p => ∀ v, AllVals k fun vs => p (v :: vs)

theorem AllVals.at : ∀ (k : Nat) (p : List Value → Prop), AllVals k p → ∀ vs, vs.length = k → p vs
  | 0, p, h, vs, hv => by rw [List.length_eq_zero_iff.1 hv]; exact h
  | k + 1, p, h, [], hv => by simp at hv
  | k + 1, p, h, v :: vs, hv => AllVals.at k _ (h v) vs (by simpa using hv)

theorem wpList_app {P : Program} {ops : Array Oper} {Q : Exit → Act → World → Prop} (l2 : List Oper) : ∀ (l1 : List Oper) (a : Act) (w : World), wpList P ops (Exit.then (wpList P ops Q l2) Q) l1 a w → wpList P ops Q (l1 ++ l2) a w
  | [], a, w, h => h
  | o :: l1, a, w, h => by
    simp only [List.cons_append, wpList] at h ⊢
    split
    · rename_i hw
      rw [if_pos hw] at h
      have mono : ∀ (K K' : Act → World → Prop), (∀ a w, K a w → K' a w) → o.wp P a w K (Exit.then (wpList P ops Q l2) Q) → o.wp P a w K' Q := by
        intro K K' hk h
        unfold Oper.wp at *
        generalize (execOp a.eval o).run P w = r at *
        cases r with
        | ok n w' => cases n <;> simp only [Oper.upon] at h ⊢ <;> first | exact hk _ _ h | exact h | exact Calls.mono h (fun e w'' he => by cases e <;> first | exact hk _ _ he | exact he) | exact Rows.mono h (fun e w'' he => hk _ _ he)
        | halt x w' => cases x <;> simp only [Oper.upon] at h ⊢ <;> exact h
      rcases h with h | h
      · exact .inl (mono _ _ (fun a w hh => wpList_app l2 l1 a w hh) h)
      · exact .inr h
    · rename_i hw
      rw [if_neg hw] at h
      exact wpList_app l2 l1 _ _ h

theorem wpList_then {P : Program} {ops : Array Oper} {Q : Exit → Act → World → Prop} {N N' : Act → World → Prop} (hn : ∀ a w, N a w → N' a w) : ∀ (l : List Oper) (a : Act) (w : World), wpList P ops (Exit.then N Q) l a w → wpList P ops (Exit.then N' Q) l a w
  | [], a, w, h => hn _ _ h
  | o :: l, a, w, h => by
    simp only [wpList] at h ⊢
    split
    · rename_i hw
      rw [if_pos hw] at h
      rcases h with h | h
      · left
        unfold Oper.wp at *
        generalize (execOp a.eval o).run P w = r at *
        cases r with
        | ok n w' => cases n <;> simp only [Oper.upon] at h ⊢ <;> first | exact wpList_then hn l _ _ h | exact h | exact Calls.mono h (fun e w'' he => by cases e <;> first | exact wpList_then hn l _ _ he | exact he) | exact Rows.mono h (fun e w'' he => wpList_then hn l _ _ he)
        | halt x w' => cases x <;> simp only [Oper.upon] at h ⊢ <;> exact h
      · exact .inr h
    · rename_i hw
      rw [if_neg hw] at h
      exact wpList_then hn l _ _ h

/-- THE CUT: the first n operations, all ways; then on, whatever the slots js hold. -/
theorem list_cut {P : Program} {ops : Array Oper} {Q : Exit → Act → World → Prop} {l : List Oper} {a : Act} {w : World} (n : Nat) (js : List Nat)
    (h1 : wpList P ops (Exit.then (Junk a w js) Q) (l.take n) a w) (h2 : AllVals js.length fun vs => wpList P ops Q (l.drop n) ⟨setMany a.tmps js vs, a.defers⟩ w) : wpList P ops Q l a w := by
  rw [← List.take_append_drop n l]
  refine wpList_app _ _ _ _ (wpList_then (fun a' w' hj => ?_) _ _ _ h1)
  obtain ⟨rfl, vs, hv, rfl⟩ := hj
  exact AllVals.at _ _ h2 vs hv

end Go.Proofs.Ytkeaogphaifnmaa
