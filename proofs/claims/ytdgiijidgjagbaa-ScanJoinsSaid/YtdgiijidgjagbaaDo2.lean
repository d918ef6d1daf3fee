/- As XDo; behind the operation that may do whatever come more such ones, in one forced order, and what reads the frame alone. Over whatever program. -/
import Derived.Test.YtdgiijidgjagbaaDo
import Derived.Test.YtdgiijidgjagbaaMixR
namespace Go.Proofs.Ytdgiijidgjagbaa
set_option linter.unusedVariables false
set_option linter.unusedSimpArgs false
open Go.RowKit

section
variable {P : Program} {l : List Oper} {Q : Exit → Act → World → Prop}

theorem wpAnyL_of_H {ops : Array Oper} {T : Nat} {C : World → Prop} : ∀ (fuel : Nat) (L : Array Bool) (a : Act) (w : World), wpAnyH P .any ops Q C fuel L a w → wpAnyL P ops Q T (fun _ => True) fuel L a w
  | 0, _, _, _, h => h
  | fuel + 1, L, a, w, h => ⟨h.1, fun i hi => wpOp_mono (fun a' w' h' => ⟨fun _ => trivial, wpAnyL_of_H fuel _ a' w' h'.2⟩) (h.2 i hi)⟩

def All : Nat → Prop := fun _ => True
def do2B (l : List Oper) (qs qf : List Nat) (T : Nat) (early : List Nat) (sched : List (List Nat × Nat)) (fin : List Nat) : Bool :=
  let L := Array.replicate l.toArray.size false
  let L0 := marks L qs
  let L1 := (marks L0 qf).setIfInBounds T true
  Region.noSelect l.toArray && (qs.length + qf.length + 1 + total sched fin == l.toArray.size) && ancB l.toArray early [T] && quietsB l.toArray qs L && quietsB l.toArray qf L0 && qf.all (· != T) && (Region.ready .any l.toArray (marks L0 qf) == [T]) && qs.all (fun q => early.contains q && q != T) &&
  mixB l.toArray sched fin L1 && L1.getD T false

def wpDo2 (P : Program) (l : List Oper) (Q : Exit → Act → World → Prop) (qs qf : List Nat) (T : Nat) (sched : List (List Nat × Nat)) (fin : List Nat) (a : Act) (w : World) : Prop :=
  wpQuiet P l.toArray (fun w' => ∃ x : Later (RowKit.Below w.heap.size w), w' = x.w)
    (fun a0 => wpQuiet P l.toArray (fun w' => ∃ x : Later (fun _ => True), w' = x.w) (fun a' => wpList P l.toArray (Exit.then (fun a'' w'' => wpMixK P l Q All sched fin a'' w'') Q) (pickOps l [T]) a' w) (pickOps l qf) a0) (pickOps l qs) a

theorem wp_region_do2 {id : Nat} {a : Act} {w : World} (qs qf : List Nat) (T : Nat) (early : List Nat) (sched : List (List Nat × Nat)) (fin : List Nat) (hm : P.follows .mixedOrders = true) (hB : do2B l qs qf T early sched fin = true)
    (hQ : ∀ c a d v w, Q (.panic c) (Act.put a d v) w → Q (.panic c) a w) (h : ∀ wd, RowKit.Below w.heap.size w wd → wpDo2 P l Q qs qf T sched fin a wd) : (Code.region id l.toArray true).wp P Q a w := by
  simp only [do2B, Bool.and_eq_true, beq_iff_eq, List.all_eq_true, bne_iff_ne] at hB
  obtain ⟨⟨⟨⟨⟨⟨⟨⟨⟨h1, h2⟩, h3⟩, h4⟩, hf1⟩, hf2⟩, h5⟩, h6⟩, h7⟩, h10⟩ := hB
  refine wp_region_any hm ?_
  have hw := h w.drew (RowKit.Below.refl _ _).drew
  have hS0 : Shut l.toArray (Array.replicate l.toArray.size false) := fun k o hk => by
    rw [Array.getD_eq_getD_getElem?, Array.getElem?_replicate] at hk
    split at hk <;> cases hk
  have key : wpAnyL P l.toArray Q T (RowKit.Below w.drew.heap.size w.drew) ((total sched fin + 1 + qf.length) + qs.length) (Array.replicate l.toArray.size false) a w.drew := by
    refine quiets_takeT (RowKit.Below w.drew.heap.size w.drew) h1 hQ (RowKit.Below.refl _ _) (total sched fin + 1 + qf.length) qs _ a (fun q hq => (h6 q hq).2) (fun q hq w' hmay => ?_) hS0 h4 ?_
    · obtain ⟨L', hc', hq', hS'⟩ := hmay
      refine hS' ?_
      cases hT : L'.getD T false with
      | false => rfl
      | true =>
        have := anc_spec hc' early [T] h3 (fun j hj => by obtain rfl := List.mem_singleton.1 hj; exact hT) q (by simpa using (h6 q hq).1)
        rw [getD_bit hq'] at this
        cases this
    · refine wpQuiet_mono (fun a0 h0 => ?_) _ _ hw
      rintro L0 hc0 rfl
      refine quiets_takeT (fun _ => True) h1 hQ (RowKit.Below.refl _ _) (total sched fin + 1) qf _ a0 hf2 (fun _ _ _ _ => trivial) hc0 hf1 ?_
      refine wpQuiet_mono (fun a' h' => ?_) _ _ h0
      rintro L' hc' rfl
      refine ⟨fun h0 => (by rw [h5] at h0; cases h0), fun j hj => ?_⟩
      have hj' := hj
      rw [h5] at hj'
      obtain rfl : j = T := by simpa using hj'
      refine wpOp_mono (fun a'' w'' hh => ?_) (op_of_list hj h')
      refine ⟨fun h0 => (by rw [h10] at h0; cases h0), ?_⟩
      refine wpAnyL_up (S' := fun _ => True) _ _ _ _ h10 ?_
      exact wpAnyL_of_H _ _ _ _ (mixK_any (G := All) h1 hQ sched fin _ a'' w'' h7 hh)
  rw [show total sched fin + 1 + qf.length + qs.length = l.toArray.size by omega] at key
  exact wpAny_of_L _ _ _ _ key

theorem do2_intro {qs qf : List Nat} {T : Nat} {sched : List (List Nat × Nat)} {fin : List Nat} {a : Act} {w : World} (h : wpQuiet P l.toArray (fun w' => ∃ x : Later (RowKit.Below w.heap.size w), w' = x.w)
    (fun a0 => wpQuiet P l.toArray (fun w' => ∃ x : Later (fun _ => True), w' = x.w) (fun a' => wpList P l.toArray (Exit.then (fun a'' w'' => wpMixK P l Q All sched fin a'' w'') Q) (pickOps l [T]) a' w) (pickOps l qf) a0) (pickOps l qs) a) : wpDo2 P l Q qs qf T sched fin a w := h
end
theorem ke_all {G : Nat → Prop} {w w' : World} (h : Ke G w w') : Ke All w w' := h.mono (fun _ _ _ => trivial)
instance later_all (w : World) : Nonempty (Later (Ke All w)) := ⟨⟨w, Ke.refl _ _⟩⟩

end Go.Proofs.Ytdgiijidgjagbaa
