/- As XTail; the forced operations ahead of the store may write blocks of G, too. -/
import Derived.Test.YtfnibpkojhgflaaTail
import Derived.Test.YtfnibpkojhgflaaMixR
namespace Go.Proofs.Ytfnibpkojhgflaa
set_option linter.unusedVariables false
set_option linter.unusedSimpArgs false
open Go.RowKit

section
variable {P : Program} {l : List Oper} {Q : Exit → Act → World → Prop} {S : World → Prop} {T : Nat} {G : Nat → Prop}

/-- in segments; the last one's operations yield the same in whatever world; then the store. -/
def wpMixTK (G : Nat → Prop) (P : Program) (l : List Oper) (Q : Exit → Act → World → Prop) (qsT : List Nat) (T : Nat) : List (List Nat × Nat) → Act → World → Prop
  | [], a, w => wpQuiet P l.toArray (fun w' => ∃ x : Later (fun _ => True), w' = x.w) (fun a' => wpList P l.toArray (Exit.then (fun a'' w'' => Q .normal a'' w'') Q) (pickOps l [T]) a' w) (pickOps l qsT) a
  | (qs, i) :: rest, a, w => wpQuiet P l.toArray (fun w' => ∃ x : Later (Ke G w), w' = x.w)
      (fun a' => wpList P l.toArray (Exit.then (fun a'' w'' => Ke G w w'' ∧ wpMixTK G P l Q qsT T rest a'' w'') Q) (pickOps l [i]) a' w) (pickOps l qs) a

theorem mixT_anyK (hs : Region.noSelect l.toArray = true) (hQ : ∀ c a d v w, Q (.panic c) (Act.put a d v) w → Q (.panic c) a w) {qsT early : List Nat} (ha : ancB l.toArray early [T] = true) : ∀ (sched : List (List Nat × Nat)) (L : Array Bool) (a : Act) (w : World),
    Shut l.toArray L → mixTB l.toArray qsT T early sched L = true → wpMixTK G P l Q qsT T sched a w → wpAnyL P l.toArray Q T (Ke G w) (totalT qsT sched) L a w
  | [], L, a, w, hc, hB, h => by
    simp only [mixTB, Bool.and_eq_true, beq_iff_eq, List.isEmpty_iff, List.all_eq_true, bne_iff_ne, Bool.not_eq_true'] at hB
    obtain ⟨⟨⟨⟨⟨h1, h2⟩, h3⟩, h4⟩, h5⟩, h6⟩ := hB
    unfold wpMixTK at h
    refine quiets_takeT (fun _ => True) hs hQ (Ke.refl G _) 1 qsT L a h4 (fun _ _ _ _ => trivial) hc h1 ?_
    refine wpQuiet_mono (fun a' h' => ?_) _ _ h
    rintro L' hc' rfl
    refine ⟨fun h0 => (by rw [h2] at h0; cases h0), fun j hj => ?_⟩
    have hj' := hj
    rw [h2] at hj'
    obtain rfl : j = T := by simpa using hj'
    refine wpOp_mono (fun a'' w'' hh => ?_) (op_of_list hj h')
    exact ⟨fun h0 => (by rw [h6] at h0; cases h0), h3, hh⟩
  | (qs, i) :: rest, L, a, w, hc, hB, h => by
    simp only [mixTB, Bool.and_eq_true, beq_iff_eq, List.all_eq_true, bne_iff_ne, Bool.not_eq_true'] at hB
    obtain ⟨⟨⟨⟨⟨h1, h2⟩, h3⟩, h4⟩, h5⟩, h6⟩ := hB
    unfold wpMixTK at h
    refine quiets_takeT (Ke G w) hs hQ (Ke.refl G _) (totalT qsT rest + 1) qs L a (fun q hq => (h3 q hq).2) (fun q hq w' hm => ?_) hc h1 ?_
    · obtain ⟨L', hc', hq', hS'⟩ := hm
      refine hS' ?_
      cases hT : L'.getD T false with
      | false => rfl
      | true =>
        have := anc_spec hc' early [T] ha (fun j hj => by obtain rfl := List.mem_singleton.1 hj; exact hT) q (by simpa using (h3 q hq).1)
        rw [getD_bit hq'] at this
        cases this
    · refine wpQuiet_mono (fun a' h' => ?_) _ _ h
      rintro L' hc' rfl
      refine ⟨fun h0 => (by rw [h2] at h0; cases h0), fun j hj => ?_⟩
      have hj' := hj
      rw [h2] at hj'
      obtain rfl : j = i := by simpa using hj'
      refine wpOp_mono (fun a'' w'' hh => ?_) (op_of_list hj h')
      exact ⟨fun _ => hh.1, wpAnyL_weak (fun w' hw' => hh.1.trans hw') _ _ _ _ (mixT_anyK hs hQ ha rest _ a'' w'' (hc'.set hj) h6 hh.2)⟩

/-- THE LAW. -/
theorem wp_region_tailK {id : Nat} {a : Act} {w : World} (sched : List (List Nat × Nat)) (qsT : List Nat) (T : Nat) (early : List Nat) (hm : P.follows .mixedOrders = true) (hB : tailB l sched qsT T early = true)
    (hQ : ∀ c a d v w, Q (.panic c) (Act.put a d v) w → Q (.panic c) a w) (h : wpMixTK G P l Q qsT T sched a w.drew) : (Code.region id l.toArray true).wp P Q a w := by
  simp only [tailB, Bool.and_eq_true, beq_iff_eq] at hB
  obtain ⟨⟨⟨h1, h2⟩, h3⟩, h4⟩ := hB
  refine wp_region_any hm ?_
  have h5 : wpAnyL P l.toArray Q T (Ke G w.drew) (totalT qsT sched) (Array.replicate l.toArray.size false) a w.drew := by
    refine mixT_anyK h1 hQ h3 sched _ a w.drew (fun k o hk => ?_) h4 h
    rw [Array.getD_eq_getD_getElem?, Array.getElem?_replicate] at hk
    split at hk <;> cases hk
  rw [h2] at h5
  exact wpAny_of_L _ _ _ _ h5

end

theorem mixT_stepK {G : Nat → Prop} {P : Program} {l : List Oper} {Q : Exit → Act → World → Prop} {a : Act} {w : World} {qs : List Nat} {i : Nat} {rest : List (List Nat × Nat)} {qsT : List Nat} {T : Nat}
    (h : wpQuiet P l.toArray (fun w' => ∃ x : Later (Ke G w), w' = x.w) (fun a' => wpList P l.toArray (Exit.then (fun a'' w'' => Ke G w w'' ∧ wpMixTK G P l Q qsT T rest a'' w'') Q) (pickOps l [i]) a' w) (pickOps l qs) a) : wpMixTK G P l Q qsT T ((qs, i) :: rest) a w := h
theorem mixT_endK {G : Nat → Prop} {P : Program} {l : List Oper} {Q : Exit → Act → World → Prop} {a : Act} {w : World} {qsT : List Nat} {T : Nat}
    (h : wpQuiet P l.toArray (fun w' => ∃ x : Later (fun _ => True), w' = x.w) (fun a' => wpList P l.toArray (Exit.then (fun a'' w'' => Q .normal a'' w'') Q) (pickOps l [T]) a' w) (pickOps l qsT) a) : wpMixTK G P l Q qsT T [] a w := h
instance later_ke {G : Nat → Prop} {w : World} : Nonempty (Later (Ke G w)) := ⟨⟨w, Ke.refl G w⟩⟩

end Go.Proofs.Ytfnibpkojhgflaa
