/- A region that draws its order, where several forced operations may stand ready at once: taken step by step, each in turn. Over whatever program. -/
import Derived.Test.YtfnibpkojhgflaaMixR
namespace Go.Proofs.Ytfnibpkojhgflaa
set_option linter.unusedVariables false
set_option linter.unusedSimpArgs false
open Go.RowKit

section
variable {P : Program} {l : List Oper} {Q : Exit → Act → World → Prop} {G : Nat → Prop}

/-- what is left of a region, behind what is listed. -/
structure Rest (P : Program) (l : List Oper) (Q : Exit → Act → World → Prop) (G : Nat → Prop) (n : Nat) (L : Array Bool) (a : Act) (w : World) : Prop where
  h : wpAnyH P .any l.toArray Q (Ke G w) n L a w
  
theorem rest_step (qs : List Nat) (js : List Nat) (hs : Region.noSelect l.toArray = true) (hQ : ∀ c a d v w, Q (.panic c) (Act.put a d v) w → Q (.panic c) a w) {n m : Nat} {L L' : Array Bool} {a : Act} {w : World}
    (hB : quietsB l.toArray qs L = true) (hL : marks L qs = L') (hr : Region.ready .any l.toArray L' = js) (hne : js ≠ []) (hm : m = n + 1 + qs.length)
    (h : wpQuiet P l.toArray (fun w' => ∃ x : Later (Ke G w), w' = x.w) (fun a' => ∀ j ∈ js, wpList P l.toArray (Exit.then (fun a'' w'' => Ke G w w'' ∧ Rest P l Q G n (L'.setIfInBounds j true) a'' w'') Q) (pickOps l [j]) a' w) (pickOps l qs) a) : Rest P l Q G m L a w := by
  subst hm hL
  refine ⟨quiets_take hs hQ (Ke.refl _ _) (n + 1) qs L a hB ?_⟩
  refine wpQuiet_mono (fun a' h' => ?_) _ _ h
  refine wpAnyH_all hr (fun e => hne (by simpa using e)) fun j hj => ?_
  replace h' := h' j hj
  have hi : l.toArray[j]? = nth l j := by rw [nth_eq]; simp
  unfold wpOp
  rw [hi]
  have next : ∀ a'' w'', Ke G w w'' ∧ Rest P l Q G n ((marks L qs).setIfInBounds j true) a'' w'' → Ke G w w'' ∧ wpAnyH P .any l.toArray Q (Ke G w) n ((marks L qs).setIfInBounds j true) a'' w'' := fun a'' w'' h'' =>
    ⟨h''.1, wpAnyH_weak (fun w' hw' => h''.1.trans hw') _ _ _ _ h''.2.h⟩
  cases ho : nth l j with
  | none =>
    rw [ho] at hi
    have : j ∈ Region.ready .any l.toArray (marks L qs) := by rw [hr]; exact hj
    obtain ⟨_, o, hoo, _⟩ := mem_ready.1 this
    rw [hi] at hoo
    cases hoo
  | some o =>
    simp only [pickOps, ho, wpList] at h'
    simp only
    split
    · rename_i hw
      simp only [hw, if_true] at h'
      rcases h' with h' | h'
      · exact .inl (Oper.wp_mono next (wp_then h'))
      · exact .inr h'
    · rename_i hw
      simp only [hw] at h'
      exact next _ _ h'

theorem rest_end (qs : List Nat) (hs : Region.noSelect l.toArray = true) (hQ : ∀ c a d v w, Q (.panic c) (Act.put a d v) w → Q (.panic c) a w) {m : Nat} {L : Array Bool} {a : Act} {w : World}
    (hB : quietsB l.toArray qs L = true) (hr : (Region.ready .any l.toArray (marks L qs)).isEmpty = true) (hm : m = 0 + qs.length)
    (h : wpQuiet P l.toArray (fun w' => ∃ x : Later (Ke G w), w' = x.w) (fun a' => Q .normal a' w) (pickOps l qs) a) : Rest P l Q G m L a w := by
  subst hm
  rw [List.isEmpty_iff] at hr
  refine ⟨quiets_take hs hQ (Ke.refl _ _) 0 qs L a hB ?_⟩
  refine cast ?_ h
  congr 1
  funext a'
  exact propext ⟨fun h => wpAnyH_done hr h 0, fun h => h.2⟩

theorem wp_region_rest {id : Nat} {a : Act} {w : World} (G : Nat → Prop) (n : Nat) (hm : P.follows .mixedOrders = true) (hn : l.toArray.size = n)
    (h : ∀ wd, Below w.heap.size w wd → Rest P l Q G n (Array.replicate n false) a wd) : (Code.region id l.toArray true).wp P Q a w := by
  subst hn
  refine wp_region_held (S := Ke G w.drew) hm ?_
  exact (h _ (Below.refl _ _).drew).h

theorem all1 {p : Nat → Prop} {i : Nat} (h : p i) : ∀ j ∈ [i], p j := fun j hj => by obtain rfl := List.mem_singleton.1 hj; exact h
theorem all2 {p : Nat → Prop} {i k : Nat} (h : p i) (h' : p k) : ∀ j ∈ [i, k], p j := fun j hj => by
  rcases List.mem_cons.1 hj with rfl | hj
  · exact h
  · exact all1 h' j hj
theorem all3 {p : Nat → Prop} {i k m : Nat} (h : p i) (h' : p k) (h'' : p m) : ∀ j ∈ [i, k, m], p j := fun j hj => by
  rcases List.mem_cons.1 hj with rfl | hj
  · exact h
  · exact all2 h' h'' j hj
end

end Go.Proofs.Ytfnibpkojhgflaa
