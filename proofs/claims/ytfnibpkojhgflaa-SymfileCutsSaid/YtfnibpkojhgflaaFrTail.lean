/- A drawn region whose last operation is a store; those ahead of it may write some own things. Over whatever program. -/
import Derived.Test.YtfnibpkojhgflaaFrWalk
namespace Go.Proofs.Ytfnibpkojhgflaa
set_option linter.unusedVariables false
set_option linter.unusedSimpArgs false
open Go.RowKit

variable {P : Program} {B : Code} {n : Nat} {Q : Exit → Act → World → Prop} {p : List Nat} {l : Slots} {w w' : World} {i : Nat} {qs is : List Nat} {rest : List (List Nat × Nat)} {G : Nat → Prop} {qsT : List Nat} {T : Nat}

/-- what may be written: what is new, and these things. -/
def GK (w : World) (L : List Res) (is : List Nat) (b : Nat) : Prop := w.heap.size ≤ b ∨ ∃ i, is.contains i = true ∧ ∃ r, L[i]? = some r ∧ r.foot b
theorem GK.new {L : List Res} (hG : G = GK w L is) {b : Nat} (h : w.heap.size ≤ b) : G b := by subst hG; exact .inl h
theorem GK.own {L : List Res} (hG : G = GK w L is) (i : Nat) (hi : is.contains i = true) {r : Res} (hr : L[i]? = some r) {b : Nat} (h : r.foot b) : G b := by subst hG; exact .inr ⟨i, hi, r, hr, h⟩
/-- a thing that is none of them is as it was. -/
theorem Mem.alone {b0 : Base} {L : List Res} (M : Mem b0 w L) (hG : G = GK w L is) (q : Nat) {r : Res} (hi : L[q]? = some r) (hq : is.contains q = false) {y : World} (h : Ke G w y) : Mem ⟨y, r.foot⟩ y [r] := by
  subst hG
  have hn : ∀ b, r.foot b → ¬ GK w L is b := by
    rintro b hb (h | ⟨i, h1, s, h2, h3⟩)
    · have := M.lt q hi hb; omega
    · exact M.ne (by rintro rfl; rw [hq] at h1; cases h1) hi h2 hb h3
  refine ⟨Ke.refl _ _, fun s hs => ?_, List.pairwise_singleton _ _⟩
  obtain rfl := List.mem_singleton.1 hs
  exact ⟨s.loc (fun b hb => M.lt q hi hb) (fun b hb => h.block b (M.lt q hi hb) (hn b hb)) (M.get q hi), fun b hb => ⟨.inr hb, Nat.lt_of_lt_of_le (M.lt q hi hb) h.size⟩⟩

def ST (P : Program) (B : Code) (n : Nat) (Q : Exit → Act → World → Prop) (p : List Nat) (G : Nat → Prop) (qsT : List Nat) (T : Nat) (sched : List (List Nat × Nat)) (l : Slots) (w : World) : Prop := ∀ a, Fr n l a → wpMixTK G P (opsL B p) Q qsT T sched a w
theorem SC.tail (G : Nat → Prop) (sched : List (List Nat × Nat)) (qsT : List Nat) (T : Nat) (early : List Nat) (h : isReg (sub B p) = some true) (hm : P.follows .mixedOrders = true) (hB : tailB (opsL B p) sched qsT T early = true)
    (hQ : ∀ c a d v w, Q (.panic c) (Act.put a d v) w → Q (.panic c) a w) (k : ∀ wd, Below w.heap.size w wd → ST P B n Q p G qsT T sched l wd) : SC P B n Q p l w := by
  intro a ha
  unfold ST at k
  unfold opsL at hB k
  cases hc : sub B p with
  | region id ops d =>
    rw [hc] at h hB k
    simp only [isReg, Option.some.injEq] at h
    subst h
    simp only at hB k
    have := wp_region_tailK (P := P) (id := id) (l := ops.toList) (Q := Q) (a := a) (w := w) (G := G) sched qsT T early hm hB hQ (k _ (Below.refl _ _).drew a ha)
    simpa using this
  | _ => rw [hc] at h; cases h
theorem ST.step (k : SU P B n (Ke G w) (fun a' => wpList P (opsL B p).toArray (Exit.then (fun a'' w'' => Ke G w w'' ∧ wpMixTK G P (opsL B p) Q qsT T rest a'' w'') Q) (pickOps (opsL B p) [i]) a' w) p qs l) : ST P B n Q p G qsT T ((qs, i) :: rest) l w := fun a ha => k a ha
theorem ST.last (k : SU P B n (fun _ => True) (fun a' => wpList P (opsL B p).toArray (Exit.then (fun a'' w'' => Q .normal a'' w'') Q) (pickOps (opsL B p) [T]) a' w) p qsT l) : ST P B n Q p G qsT T [] l w := fun a ha => k a ha
theorem ST.back (hb : Ke G w w') (k : ST P B n Q p G qsT T rest l w') : SQ n (Exit.then (fun a'' w'' => Ke G w w'' ∧ wpMixTK G P (opsL B p) Q qsT T rest a'' w'') Q) .normal l w' := fun a ha => ⟨hb, k a ha⟩
theorem ST.done (k : SQ n Q .normal l w) : SQ n (Exit.then (fun a'' w'' => Q .normal a'' w'') Q) .normal l w := fun a ha => k a ha
instance true_ne : Nonempty (Later (fun _ => True)) := ⟨⟨default, trivial⟩⟩
/-- what stood beside a thing that another piece of the way wrote. -/
theorem Mem.frame {b0 : Base} {W : World} {r0 : Res} {L L0 L1 : List Res} (M0 : Mem b0 W (r0 :: L0)) (M : Mem ⟨W, r0.foot⟩ w L) (e : L ++ L0 = L1) : Mem b0 w L1 := by
  subst e
  have hlo : ∀ b, r0.foot b → b0.w.heap.size ≤ b ∨ b0.G b := fun b hb => M0.lo' 0 rfl hb
  refine ⟨M0.ke.trans' M.ke (fun b hb q => (hlo b q).resolve_left (by omega)), fun r hr => ?_, List.pairwise_append.2 ⟨M.nd, (List.pairwise_cons.1 M0.nd).2, fun r hr s hs b hb hb' => ?_⟩⟩
  · rcases List.mem_append.1 hr with hr | hr
    · obtain ⟨h1, h2⟩ := M.own r hr
      refine ⟨h1, fun b hb => ⟨?_, (h2 b hb).2⟩⟩
      rcases (h2 b hb).1 with q | q
      · exact .inl (Nat.le_trans M0.ke.size q)
      · exact hlo b q
    · obtain ⟨h1, h2⟩ := M0.own r (List.mem_cons_of_mem _ hr)
      refine ⟨r.loc (fun b hb => (h2 b hb).2) (fun b hb => M.ke.block b (h2 b hb).2 (fun q => (List.pairwise_cons.1 M0.nd).1 r hr b q hb)) h1, fun b hb => ⟨(h2 b hb).1, Nat.lt_of_lt_of_le (h2 b hb).2 M.ke.size⟩⟩
  · rcases (((M.own r hr).2 b hb).1) with q | q
    · have := ((M0.own s (List.mem_cons_of_mem _ hs)).2 b hb').2
      have q : W.heap.size ≤ b := q
      omega
    · exact (List.pairwise_cons.1 M0.nd).1 s hs b q hb'
end Go.Proofs.Ytfnibpkojhgflaa
