/- A REGION THAT DRAWS ITS ORDER and holds one operation that may do whatever (a call that writes, a store, an append): all that reads memory must come ahead of it; behind it such as read the frame alone. One walk serves every order. Over whatever program. -/
import Derived.Test.YtdgiijidgjagbaaTail
namespace Go.Proofs.Ytdgiijidgjagbaa
set_option linter.unusedVariables false
set_option linter.unusedSimpArgs false
open Go.RowKit

section
variable {P : Program} {ops : Array Oper} {Q : Exit → Act → World → Prop} {S S' : World → Prop} {T : Nat}

theorem getD_mono {L : Array Bool} {i : Nat} (h : L.getD T false = true) : (L.setIfInBounds i true).getD T false = true := by
  by_cases hi : i = T
  · subst hi
    rcases Nat.lt_or_ge i L.size with h' | h'
    · simp [h']
    · simp [Array.getElem?_eq_none h'] at h
  · rw [getD_set_ne false hi]; exact h

theorem wpAnyL_up : ∀ (fuel : Nat) (L : Array Bool) (a : Act) (w : World), L.getD T false = true → wpAnyL P ops Q T S' fuel L a w → wpAnyL P ops Q T S fuel L a w
  | 0, _, _, _, _, h => h
  | fuel + 1, L, a, w, hT, h => ⟨h.1, fun i hi => wpOp_mono (fun a' w' h' => ⟨fun h0 => (by rw [getD_mono hT] at h0; cases h0), wpAnyL_up fuel _ a' w' (getD_mono hT) h'.2⟩) (h.2 i hi)⟩
end

section
variable {P : Program} {l : List Oper} {Q : Exit → Act → World → Prop}

def doB (l : List Oper) (qs : List Nat) (T : Nat) (early fin : List Nat) : Bool :=
  let L := Array.replicate l.toArray.size false
  let L1 := (marks L qs).setIfInBounds T true
  Region.noSelect l.toArray && (qs.length + 1 + fin.length == l.toArray.size) && ancB l.toArray early [T] && quietsB l.toArray qs L && (Region.ready .any l.toArray (marks L qs) == [T]) && qs.all (fun q => early.contains q && q != T) &&
  quietsB l.toArray fin L1 && (Region.ready .any l.toArray (marks L1 fin)).isEmpty && fin.all (· != T) && L1.getD T false

/-- what is to be shown. -/
def wpDo (P : Program) (l : List Oper) (Q : Exit → Act → World → Prop) (qs : List Nat) (T : Nat) (fin : List Nat) (a : Act) (w : World) : Prop :=
  wpQuiet P l.toArray (fun w' => ∃ x : Later (RowKit.Below w.heap.size w), w' = x.w)
    (fun a' => wpList P l.toArray (Exit.then (fun a'' w'' => wpQuiet P l.toArray (fun w' => ∃ x : Later (fun _ => True), w' = x.w) (fun a3 => Q .normal a3 w'') (pickOps l fin) a'') Q) (pickOps l [T]) a' w) (pickOps l qs) a

theorem wp_region_do {id : Nat} {a : Act} {w : World} (qs : List Nat) (T : Nat) (early fin : List Nat) (hm : P.follows .mixedOrders = true) (hB : doB l qs T early fin = true)
    (hQ : ∀ c a d v w, Q (.panic c) (Act.put a d v) w → Q (.panic c) a w) (h : ∀ wd, RowKit.Below w.heap.size w wd → wpDo P l Q qs T fin a wd) : (Code.region id l.toArray true).wp P Q a w := by
  simp only [doB, Bool.and_eq_true, beq_iff_eq, List.isEmpty_iff, List.all_eq_true, bne_iff_ne] at hB
  obtain ⟨⟨⟨⟨⟨⟨⟨⟨⟨h1, h2⟩, h3⟩, h4⟩, h5⟩, h6⟩, h7⟩, h8⟩, h9⟩, h10⟩ := hB
  refine wp_region_any hm ?_
  have hw := h w.drew (RowKit.Below.refl _ _).drew
  have hS0 : Shut l.toArray (Array.replicate l.toArray.size false) := fun k o hk => by
    rw [Array.getD_eq_getD_getElem?, Array.getElem?_replicate] at hk
    split at hk <;> cases hk
  have key : wpAnyL P l.toArray Q T (RowKit.Below w.drew.heap.size w.drew) ((fin.length + 1) + qs.length) (Array.replicate l.toArray.size false) a w.drew := by
    refine quiets_takeT (RowKit.Below w.drew.heap.size w.drew) h1 hQ (RowKit.Below.refl _ _) (fin.length + 1) qs _ a (fun q hq => (h6 q hq).2) (fun q hq w' hmay => ?_) hS0 h4 ?_
    · obtain ⟨L', hc', hq', hS'⟩ := hmay
      refine hS' ?_
      cases hT : L'.getD T false with
      | false => rfl
      | true =>
        have := anc_spec hc' early [T] h3 (fun j hj => by obtain rfl := List.mem_singleton.1 hj; exact hT) q (by simpa using (h6 q hq).1)
        rw [getD_bit hq'] at this
        cases this
    · refine wpQuiet_mono (fun a' h' => ?_) _ _ hw
      rintro L' hc' rfl
      refine ⟨fun h0 => (by rw [h5] at h0; cases h0), fun j hj => ?_⟩
      have hj' := hj
      rw [h5] at hj'
      obtain rfl : j = T := by simpa using hj'
      refine wpOp_mono (fun a'' w'' hh => ?_) (op_of_list hj h')
      refine ⟨fun h0 => (by rw [h10] at h0; cases h0), ?_⟩
      refine wpAnyL_up (S' := fun _ => True) _ _ _ _ h10 ?_
      have := quiets_takeT (P := P) (l := l) (Q := Q) (S := fun _ => True) (T := j) (fun _ => True) h1 hQ (w := w'') trivial 0 fin _ a'' h9 (fun _ _ _ _ => trivial) (hc'.set hj) h7 (wpQuiet_mono (fun a3 h3' => fun L3 hc3 e3 => ⟨h8, h3'⟩) _ _ hh)
      rw [Nat.zero_add] at this
      exact this
  rw [show fin.length + 1 + qs.length = l.toArray.size by omega] at key
  exact wpAny_of_L _ _ _ _ key

theorem do_intro {qs : List Nat} {T : Nat} {fin : List Nat} {a : Act} {w : World} (h : wpQuiet P l.toArray (fun w' => ∃ x : Later (RowKit.Below w.heap.size w), w' = x.w)
    (fun a' => wpList P l.toArray (Exit.then (fun a'' w'' => wpQuiet P l.toArray (fun w' => ∃ x : Later (fun _ => True), w' = x.w) (fun a3 => Q .normal a3 w'') (pickOps l fin) a'') Q) (pickOps l [T]) a' w) (pickOps l qs) a) : wpDo P l Q qs T fin a w := h
end

end Go.Proofs.Ytdgiijidgjagbaa
