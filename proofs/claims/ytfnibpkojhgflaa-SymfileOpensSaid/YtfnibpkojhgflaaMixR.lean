/- XMix's law with any relation of worlds that is reflexive and transitive in the place of 'below its heap's size all is as it was': for regions whose forced operations write blocks that were there. -/
import Derived.Test.YtfnibpkojhgflaaSep
namespace Go.Proofs.Ytfnibpkojhgflaa
set_option linter.unusedVariables false
set_option linter.unusedSimpArgs false
open Go.RowKit

section
variable {P : Program} {l : List Oper} {Q : Exit → Act → World → Prop} {G : Nat → Prop}

/-- as wpMix, over Ke G. -/
def wpMixK (P : Program) (l : List Oper) (Q : Exit → Act → World → Prop) (G : Nat → Prop) : List (List Nat × Nat) → List Nat → Act → World → Prop
  | [], fin, a, w => wpQuiet P l.toArray (fun w' => ∃ x : Later (Ke G w), w' = x.w) (fun a' => Q .normal a' w) (pickOps l fin) a
  | (qs, i) :: rest, fin, a, w => wpQuiet P l.toArray (fun w' => ∃ x : Later (Ke G w), w' = x.w)
      (fun a' => wpList P l.toArray (Exit.then (fun a'' w'' => Ke G w w'' ∧ wpMixK P l Q G rest fin a'' w'') Q) (pickOps l [i]) a' w) (pickOps l qs) a

theorem mixK_any (hs : Region.noSelect l.toArray = true) (hQ : ∀ c a d v w, Q (.panic c) (Act.put a d v) w → Q (.panic c) a w) : ∀ (sched : List (List Nat × Nat)) (fin : List Nat) (listed : Array Bool) (a : Act) (w : World),
    mixB l.toArray sched fin listed = true → wpMixK P l Q G sched fin a w → wpAnyH P .any l.toArray Q (Ke G w) (total sched fin) listed a w
  | [], fin, listed, a, w, hB, h => by
    simp only [mixB, Bool.and_eq_true, List.isEmpty_iff] at hB
    have := quiets_take hs hQ (C := Ke G w) (Ke.refl _ _) 0 fin listed a hB.1 (by
      refine cast ?_ h
      unfold wpMixK
      congr 1
      funext a'
      exact propext ⟨fun h => wpAnyH_done hB.2 h 0, fun h => h.2⟩)
    simpa [total] using this
  | (qs, i) :: rest, fin, listed, a, w, hB, h => by
    simp only [mixB, Bool.and_eq_true, beq_iff_eq] at hB
    obtain ⟨⟨h1, h2⟩, h3⟩ := hB
    unfold wpMixK at h
    refine quiets_take hs hQ (Ke.refl _ _) (total rest fin + 1) qs listed a h1 ?_
    refine wpQuiet_mono (fun a' h' => ?_) _ _ h
    refine wpAnyH_all h2 (by simp) fun j hj => ?_
    obtain rfl : j = i := by simpa using hj
    have hi : l.toArray[j]? = nth l j := by rw [nth_eq]; simp
    unfold wpOp
    rw [hi]
    have next : ∀ a'' w'', Ke G w w'' ∧ wpMixK P l Q G rest fin a'' w'' → Ke G w w'' ∧ wpAnyH P .any l.toArray Q (Ke G w) (total rest fin) ((marks listed qs).setIfInBounds j true) a'' w'' := fun a'' w'' h'' =>
      ⟨h''.1, wpAnyH_weak (fun w' hw' => h''.1.trans hw') _ _ _ _ (mixK_any hs hQ rest fin _ a'' w'' h3 h''.2)⟩
    cases ho : nth l j with
    | none =>
      rw [ho] at hi
      have : j ∈ Region.ready .any l.toArray (marks listed qs) := by rw [h2]; simp
      obtain ⟨_, o, hoo, _⟩ := mem_ready.1 this
      rw [hi] at hoo
      cases hoo
    | some o =>
      simp only [pickOps, ho, wpList] at h'
      simp only
      split
      · rename_i hw
        simp only [hw, if_true] at h'
        rcases h' with h' | h'
        · exact .inl (Oper.wp_mono next (wp_then h'))
        · exact .inr h'
      · rename_i hw
        simp only [hw] at h'
        exact next _ _ h'

/-- THE LAW. -/
theorem wp_region_mixK {id : Nat} {a : Act} {w : World} (G : Nat → Prop) (sched : List (List Nat × Nat)) (fin : List Nat) (hm : P.follows .mixedOrders = true) (hB : regionB l sched fin = true)
    (hQ : ∀ c a d v w, Q (.panic c) (Act.put a d v) w → Q (.panic c) a w) (h : ∀ wd, Below w.heap.size w wd → wpMixK P l Q G sched fin a wd) : (Code.region id l.toArray true).wp P Q a w := by
  simp only [regionB, Bool.and_eq_true, beq_iff_eq] at hB
  obtain ⟨⟨h1, h2⟩, h3⟩ := hB
  refine wp_region_held (S := Ke G w.drew) hm ?_
  rw [← h2] at h3 ⊢
  exact mixK_any h1 hQ sched fin _ a _ h3 (h _ (Below.refl _ _).drew)

theorem mixK_step {a : Act} {w : World} {qs : List Nat} {i : Nat} {rest : List (List Nat × Nat)} {fin : List Nat}
    (h : wpQuiet P l.toArray (fun w' => ∃ x : Later (Ke G w), w' = x.w) (fun a' => wpList P l.toArray (Exit.then (fun a'' w'' => Ke G w w'' ∧ wpMixK P l Q G rest fin a'' w'') Q) (pickOps l [i]) a' w) (pickOps l qs) a) : wpMixK P l Q G ((qs, i) :: rest) fin a w := h
theorem mixK_end {a : Act} {w : World} {fin : List Nat}
    (h : wpQuiet P l.toArray (fun w' => ∃ x : Later (Ke G w), w' = x.w) (fun a' => Q .normal a' w) (pickOps l fin) a) : wpMixK P l Q G [] fin a w := h

end

instance laterK_ne (G : Nat → Prop) (w : World) : Nonempty (Later (Ke G w)) := ⟨⟨w, Ke.refl _ _⟩⟩
/-- cells of blocks that are not written, in every world of the segment. -/
theorem At.later {G : Nat → Prop} {w : World} {g : Nat} {cs : Array Value} {t : TypeId} (h : At w g cs t) (hG : ¬ G g) (x : Later (Ke G w)) : At x.w g cs t := h.ke x.ok hG
theorem At.laterB {w : World} {g : Nat} {cs : Array Value} {t : TypeId} (h : At w g cs t) (x : Later (Below w.heap.size w)) : At x.w g cs t := h.bel x.ok
theorem At.laterCell {G : Nat → Prop} {w : World} {g : Nat} {cs : Array Value} {t : TypeId} (h : At w g cs t) (hG : ¬ G g) (j : Nat) {v : Value} (hv : cs[j]? = some v) (x : Later (Ke G w)) : x.w.cell? ⟨g, j, none⟩ = some v := ((h.later hG x).cell j).trans hv
theorem At.laterCellB {w : World} {g : Nat} {cs : Array Value} {t : TypeId} (h : At w g cs t) (j : Nat) {v : Value} (hv : cs[j]? = some v) (x : Later (Below w.heap.size w)) : x.w.cell? ⟨g, j, none⟩ = some v := ((h.laterB x).cell j).trans hv
/-- a whole struct's load, in every world of the segment. -/
theorem At.loads {P : Program} {w : World} {g : Nat} {cs : Array Value} {t : TypeId} (h : At w g cs t) {ty : TypeId} {d : TypeDesc} (hu : P.underlying ty = some d) (hd : d.isRow = true) (hi : (P.info? ty).map (·.size) = some cs.size) :
    (Instr.loadAt ty (.pointer (some ⟨g, 0, none⟩))).run P w = .ok (.agg cs) w := by
  simp only [Instr.loadAt, Instr.sureAddr, Sem.run_bind, Sem.run_pure, Result.andThen_ok, h.var hu hd hi]

/-- a whole struct's load in a quiet walk: 'go_big_quiet_want; refine quiet_row T _ rfl rfl (fun x => l x) ?_; go_big_quiet_on'. -/
theorem quiet_row {P : Program} {R : World → Prop} {K : Act → Prop} {a : Act} {o : Oper} (ty : TypeId) (x : Operand) (ho : o.op = .load ty x) {g : Nat} {cs : Array Value} (hx : a.eval x = .pointer (some ⟨g, 0, none⟩))
    (hl : ∀ y : Later R, (Instr.loadAt ty (.pointer (some ⟨g, 0, none⟩))).run P y.w = .ok (.agg cs) y.w) (hk : K (a.put o.dst (.agg cs))) : o.quiet P a (fun w' => ∃ y : Later R, w' = y.w) K :=
  ⟨_, fun w hw => by
    obtain ⟨y, rfl⟩ := hw
    unfold Oper.quietAt execOp
    simp only [ho, hx, Sem.run_bind, hl y, Result.andThen_ok]
    exact ⟨rfl, rfl⟩, hk⟩

end Go.Proofs.Ytfnibpkojhgflaa
