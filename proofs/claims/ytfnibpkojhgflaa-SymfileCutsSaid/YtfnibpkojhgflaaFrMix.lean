/- Regions that draw their order, by the slots that are known. Over whatever program. -/
import Derived.Test.YtfnibpkojhgflaaFrMem
import Derived.Test.YtfnibpkojhgflaaLibA
namespace Go.Proofs.Ytfnibpkojhgflaa
set_option linter.unusedVariables false
set_option linter.unusedSimpArgs false
open Go.RowKit

variable {P : Program} {B : Code} {n : Nat} {Q : Exit → Act → World → Prop} {p : List Nat} {l : Slots} {w w' : World} {i : Nat} {qs is fin : List Nat} {rest : List (List Nat × Nat)} {K : Act → Prop} {C : World → Prop}

def SM (P : Program) (B : Code) (n : Nat) (Q : Exit → Act → World → Prop) (p : List Nat) (sched : List (List Nat × Nat)) (fin : List Nat) (l : Slots) (w : World) : Prop := ∀ a, Fr n l a → wpMix P (opsL B p) Q sched fin a w
/-- what yields the same in every world that goes on from here. -/
def SU (P : Program) (B : Code) (n : Nat) (C : World → Prop) (K : Act → Prop) (p : List Nat) (qs : List Nat) (l : Slots) : Prop :=
  ∀ a, Fr n l a → wpQuiet P (opsL B p).toArray (fun w' => ∃ x : Later C, w' = x.w) K (pickOps (opsL B p) qs) a

theorem SC.mix (sched : List (List Nat × Nat)) (fin : List Nat) (h : isReg (sub B p) = some true) (hm : P.follows .mixedOrders = true) (hB : regionB (opsL B p) sched fin = true)
    (hQ : ∀ c a d v w, Q (.panic c) (Act.put a d v) w → Q (.panic c) a w) (k : ∀ wd, Below w.heap.size w wd → SM P B n Q p sched fin l wd) : SC P B n Q p l w := by
  intro a ha
  unfold SM at k
  unfold opsL at hB k
  cases hc : sub B p with
  | region id ops d =>
    rw [hc] at h hB k
    simp only [isReg, Option.some.injEq] at h
    subst h
    simp only at hB k
    have := wp_region_mix' (P := P) (id := id) (l := ops.toList) (Q := Q) (a := a) (w := w) sched fin hm hB hQ (fun wd hw => k wd hw a ha)
    simpa using this
  | _ => rw [hc] at h; cases h
theorem SM.step (k : SU P B n (Below w.heap.size w) (fun a' => wpList P (opsL B p).toArray (Exit.then (fun a'' w'' => Below w.heap.size w w'' ∧ wpMix P (opsL B p) Q rest fin a'' w'') Q) (pickOps (opsL B p) [i]) a' w) p qs l) : SM P B n Q p ((qs, i) :: rest) fin l w := fun a ha => k a ha
theorem SM.last (k : SU P B n (Below w.heap.size w) (fun a' => Q .normal a' w) p fin l) : SM P B n Q p [] fin l w := fun a ha => k a ha
/-- behind the quiet ones: the one that is forced. -/
theorem SU.go {Q' : Exit → Act → World → Prop} (k : SL P B n Q' p [i] l w) : SU P B n C (fun a' => wpList P (opsL B p).toArray Q' (pickOps (opsL B p) [i]) a' w) p [] l := fun a ha => k a ha
theorem SU.done (k : SQ n Q .normal l w) : SU P B n C (fun a' => Q .normal a' w) p [] l := fun a ha => k a ha
theorem SM.back (hb : Below w.heap.size w w') (k : SM P B n Q p rest fin l w') : SQ n (Exit.then (fun a'' w'' => Below w.heap.size w w'' ∧ wpMix P (opsL B p) Q rest fin a'' w'') Q) .normal l w' := fun a ha => ⟨hb, k a ha⟩

theorem SU.keep {l' : Slots} (ts : List Nat) (h : keepO l ts = some l') (k : SU P B n C K p qs l') : SU P B n C K p qs l := fun a ha => k a (ha.sub (keep_look h))
theorem SM.keep {sched : List (List Nat × Nat)} {l' : Slots} (ts : List Nat) (h : keepO l ts = some l') (k : SM P B n Q p sched fin l' w) : SM P B n Q p sched fin l w := fun a ha => k a (ha.sub (keep_look h))

theorem SU.op {o : Oper} {v : Value} (h : opAt B n p l i = some o) (hq : ∀ a, Fr n l a → ∀ y, C y → Oper.quietUpon P (fun w' => ∃ x : Later C, w' = x.w) y v ((execOp a.eval o).run P y))
    (k : SU P B n C K p qs (putL o.dst v l)) : SU P B n C K p (i :: qs) l := by
  intro a ha
  obtain ⟨h1, h2, h3, h4⟩ := opAt_of h
  simp only [pickOps, h1]
  unfold wpQuiet
  rw [want_of ha h2, if_pos rfl]
  refine ⟨v, fun y hy => ?_, k _ (ha.put h3 v)⟩
  obtain ⟨x, rfl⟩ := hy
  exact hq a ha _ x.ok
theorem SU.run [hne : Nonempty (Later C)] {d : Nat} {v : Value} (h : ∀ y, C y → runAt P B n p l i y = some (some d, .ok (.value v) y)) (k : SU P B n C K p qs ((d, v) :: l)) : SU P B n C K p (i :: qs) l := by
  obtain ⟨y0, hy0⟩ := hne
  have h0 := h y0 hy0
  cases ho : opAt B n p l i with
  | none => unfold runAt at h0; rw [ho] at h0; cases h0
  | some o =>
    cases hk : knowAll l (looks o.op) with
    | false => unfold runAt at h0; rw [ho] at h0; simp only [hk] at h0; cases h0
    | true =>
      have hd : o.dst = some d := by unfold runAt at h0; rw [ho] at h0; simp only [hk, cond_true, Option.some.injEq, Prod.mk.injEq] at h0; exact h0.1
      refine SU.op ho (v := v) (fun a ha y hy => ?_) (by rw [hd]; exact k)
      have := h y hy
      unfold runAt at this
      rw [ho] at this
      simp only [hk, cond_true, Option.some.injEq, Prod.mk.injEq] at this
      rw [exec_eq ha (opAt_of ho).2.2.2 hk, this.2]
      exact ⟨rfl, rfl⟩
theorem SU.runE [hne : Nonempty (Later C)] {d : Nat} {u v : Value} (e : u = v) (h : ∀ y, C y → runAt P B n p l i y = some (some d, .ok (.value u) y)) (k : SU P B n C K p qs ((d, v) :: l)) : SU P B n C K p (i :: qs) l := SU.run h (by subst e; exact k)
theorem SU.int [hne : Nonempty (Later C)] {d : Nat} {q : IntKind} {x z : Int} (e : x = z) (h : ∀ y, C y → runAt P B n p l i y = some (some d, .ok (.value (.int q x)) y)) (k : SU P B n C K p qs ((d, .int q z) :: l)) : SU P B n C K p (i :: qs) l := SU.run h (by subst e; exact k)
theorem SU.bool [hne : Nonempty (Later C)] {d : Nat} {x z : Bool} (e : x = z) (h : ∀ y, C y → runAt P B n p l i y = some (some d, .ok (.value (.bool x)) y)) (k : SU P B n C K p qs ((d, .bool z) :: l)) : SU P B n C K p (i :: qs) l := SU.run h (by subst e; exact k)
theorem SU.load {d : Nat} {t : TypeId} {b v : Value} (h : ldAt B n p l i = some (some d, t, b)) (hl : ∀ y, C y → (Instr.loadAt t b).run P y = .ok v y) (k : SU P B n C K p qs ((d, v) :: l)) : SU P B n C K p (i :: qs) l := by
  unfold ldAt at h
  cases ho : opAt B n p l i with
  | none => rw [ho] at h; cases h
  | some o =>
    rw [ho] at h
    simp only at h
    cases hop : o.op with
    | load t' x =>
      rw [hop] at h
      simp only at h
      cases hk : knows l x with
      | false => rw [hk] at h; cases h
      | true =>
        rw [hk] at h
        simp only [cond_true, Option.some.injEq, Prod.mk.injEq] at h
        obtain ⟨hd, rfl, rfl⟩ := h
        refine SU.op ho (v := v) (fun a ha y hy => ?_) (by rw [hd]; exact k)
        unfold execOp
        rw [hop]
        simp only [ha.eval hk, Sem.run_bind, hl y hy, Result.andThen_ok]
        exact ⟨rfl, rfl⟩
    | _ => rw [hop] at h; cases h
theorem SU.builtin {d : Nat} {b : Builtin} {ts : List TypeId} {ty : TypeId} {vs : List Value} {v : Value} (h : biAt B n p l i = some (some d, b, ts, ty, vs))
    (hr : ∀ y c, (builtin b ts.toArray ty c vs.toArray).run P y = .ok (.value v) y) (k : SU P B n C K p qs ((d, v) :: l)) : SU P B n C K p (i :: qs) l := by
  unfold biAt at h
  cases ho : opAt B n p l i with
  | none => rw [ho] at h; cases h
  | some o =>
    rw [ho] at h
    simp only at h
    cases hop : o.op with
    | call c =>
      rw [hop] at h
      simp only at h
      cases hcl : c.callee with
      | builtin b' =>
        rw [hcl] at h
        simp only at h
        cases hv : evAll l c.args.toList with
        | none => rw [hv] at h; cases h
        | some vs' =>
          rw [hv] at h
          simp only [Option.some.injEq, Prod.mk.injEq] at h
          obtain ⟨hd, rfl, rfl, rfl, rfl⟩ := h
          refine SU.op ho (v := v) (fun a ha y hy => ?_) (by rw [hd]; exact k)
          have e : (execOp a.eval o).run P y = .ok (.value v) y := by
            unfold execOp
            rw [hop]
            simp only [resolve, hcl, evAll_of ha hv, Sem.run_bind, Sem.run_pure, Result.andThen_ok, invoke]
            exact hr _ _
          rw [e]
          exact ⟨rfl, rfl⟩
      | _ => rw [hcl] at h; cases h
    | _ => rw [hop] at h; cases h
theorem SU.build {d : Nat} {t : TypeId} {ps : List (Nat × Value)} {cs : Array Value} (h : buAt B n p l i = some (some d, t, ps)) (hb : P.built t ps = some cs) (k : SU P B n C K p qs ((d, .agg cs) :: l)) : SU P B n C K p (i :: qs) l := by
  unfold buAt at h
  cases ho : opAt B n p l i with
  | none => rw [ho] at h; cases h
  | some o =>
    rw [ho] at h
    simp only at h
    cases hop : o.op with
    | build t' xs =>
      rw [hop] at h
      simp only at h
      cases hv : evParts l xs.toList with
      | none => rw [hv] at h; cases h
      | some vs =>
        rw [hv] at h
        simp only [Option.some.injEq, Prod.mk.injEq] at h
        obtain ⟨hd, rfl, rfl⟩ := h
        refine SU.op ho (v := .agg cs) (fun a ha y hy => ?_) (by rw [hd]; exact k)
        have e1 : (xs.map fun (i, x) => (i, a.eval x)).toList = vs := by rw [← evParts_of ha xs.toList vs hv]; simp
        have e : (execOp a.eval o).run P y = .ok (.value (.agg cs)) y := by
          unfold execOp
          rw [hop]
          simp only [Sem.run_bind]
          rw [run_build y t' _ cs (by rw [e1]; exact hb)]
          rfl
        rw [e]
        exact ⟨rfl, rfl⟩
    | _ => rw [hop] at h; cases h
/-- a call that yields the same in every such world, and makes memory at most. -/
theorem SU.call (hC : ∀ y y', C y → Below y.heap.size y y' → C y') {d : Nat} {f : FuncId} {vs : List Value} {v : Value} (h : callAt B n p l i = some (some d, f, vs)) (hg : isGo P f = true) (hc : ∀ y, C y → Calls P f vs.toArray y (fun e y' => e = .returned v ∧ Below y.heap.size y y'))
    (k : SU P B n C K p qs ((d, v) :: l)) : SU P B n C K p (i :: qs) l := by
  unfold callAt at h
  cases ho : opAt B n p l i with
  | none => rw [ho] at h; cases h
  | some o =>
    rw [ho] at h
    simp only at h
    cases hop : o.op with
    | call c =>
      rw [hop] at h
      simp only at h
      cases hcl : c.callee with
      | value x =>
        rw [hcl] at h
        simp only at h
        cases hk : knows l x with
        | false => rw [hk] at h; cases h
        | true =>
          rw [hk] at h
          simp only [cond_true] at h
          split at h
          · rename_i g first captured vs' hx hvs
            simp only [Option.some.injEq, Prod.mk.injEq] at h
            obtain ⟨hd, rfl, rfl⟩ := h
            refine SU.op ho (v := v) (fun b hb y hy => ?_) (by rw [hd]; exact k)
            have e : (execOp b.eval o).run P y = .ok (.enter g (first.toList ++ (vs' ++ captured.toList)).toArray) y := by
              unfold execOp
              rw [hop]
              simp only [resolve, hcl, hb.eval hk, hx, evAll_of hb hvs, Deferred.ofValue, Sem.run_bind, Sem.run_pure, Result.andThen_ok, invoke]
              rw [run_callFunc hg]
              simp
            rw [e]
            refine ⟨rfl, Calls.mono (hc y hy) fun en y' hR => ?_⟩
            exact ⟨hR.1, ⟨⟨y', hC _ _ hy hR.2⟩, rfl⟩⟩
          · cases h
      | _ => rw [hcl] at h; cases h
    | _ => rw [hop] at h; cases h
theorem SU.off {d : Nat} (h : offAt B n p l i = some (some d)) (k : SU P B n C K p qs ((d, undef) :: l)) : SU P B n C K p (i :: qs) l := by
  intro a ha
  unfold offAt at h
  split at h
  · rename_i o ho
    split at h
    · rename_i hw
      cases hb : fits n o.dst with
      | false => rw [hb] at h; cases h
      | true =>
        rw [hb] at h
        simp only [cond_true, Option.some.injEq] at h
        simp only [pickOps, ho]
        unfold wpQuiet
        rw [want_of ha hw, if_neg (by simp)]
        have := k _ (ha.put (d := some d) (by rw [← h]; exact hb) undef)
        rw [← h] at this
        exact this
    · cases h
  · cases h

/-! ### where several operations are ready at once -/
def listedL (m : Nat) (ls : List Nat) : Array Bool := marks (Array.replicate m false) ls
theorem marks_app : ∀ (xs ys : List Nat) (L : Array Bool), marks L (xs ++ ys) = marks (marks L xs) ys
  | [], _, _ => rfl
  | x :: xs, ys, L => by show marks (L.setIfInBounds x true) (xs ++ ys) = _; rw [marks_app xs ys]; rfl
def SR (P : Program) (B : Code) (n : Nat) (Q : Exit → Act → World → Prop) (p : List Nat) (G : Nat → Prop) (m k : Nat) (ls : List Nat) (l : Slots) (w : World) : Prop := ∀ a, Fr n l a → Rest P (opsL B p) Q G k (listedL m ls) a w
theorem SC.orders (G : World → Nat → Prop) (m : Nat) (h : isReg (sub B p) = some true) (hm : P.follows .mixedOrders = true) (hn : (opsL B p).length = m) (k : ∀ wd, Below w.heap.size w wd → SR P B n Q p (G wd) m m [] l wd) : SC P B n Q p l w := by
  intro a ha
  unfold SR at k
  unfold opsL at hn k
  cases hc : sub B p with
  | region id ops d =>
    rw [hc] at h hn k
    simp only [isReg, Option.some.injEq] at h
    subst h
    simp only at hn k
    have hm' : ops.toList.toArray.size = m := by simpa using hn
    subst hm'
    have := wp_region_held (P := P) (id := id) (ops := ops) (Q := Q) (a := a) (w := w) (S := Ke (G w.drew) w.drew) hm (by
      have := (k _ (Below.refl w.heap.size w).drew a ha).h
      simpa [listedL, marks] using this)
    simpa using this
  | _ => rw [hc] at h; cases h
theorem SR.step {G : Nat → Prop} {m k r : Nat} {ls : List Nat} (qs js : List Nat) (hQ : ∀ c a d v w, Q (.panic c) (Act.put a d v) w → Q (.panic c) a w) (hs : Region.noSelect (opsL B p).toArray = true) (hB : quietsB (opsL B p).toArray qs (listedL m ls) = true)
    (hr : Region.ready .any (opsL B p).toArray (marks (listedL m ls) qs) = js) (hne : js.isEmpty = false) (hm : Nat.beq k (r + 1 + qs.length) = true)
    (h : SU P B n (Ke G w) (fun a' => ∀ j ∈ js, wpList P (opsL B p).toArray (Exit.then (fun a'' w'' => Ke G w w'' ∧ Rest P (opsL B p) Q G r ((marks (listedL m ls) qs).setIfInBounds j true) a'' w'') Q) (pickOps (opsL B p) [j]) a' w) p qs l) : SR P B n Q p G m k ls l w := fun a ha =>
  rest_step qs js hs hQ hB rfl hr (by rintro rfl; cases hne) (Nat.eq_of_beq_eq_true hm) (h a ha)
theorem SR.last {G : Nat → Prop} {m k : Nat} {ls : List Nat} (qs : List Nat) (hQ : ∀ c a d v w, Q (.panic c) (Act.put a d v) w → Q (.panic c) a w) (hs : Region.noSelect (opsL B p).toArray = true) (hB : quietsB (opsL B p).toArray qs (listedL m ls) = true)
    (hr : (Region.ready .any (opsL B p).toArray (marks (listedL m ls) qs)).isEmpty = true) (hm : Nat.beq k (0 + qs.length) = true) (h : SU P B n (Ke G w) (fun a' => Q .normal a' w) p qs l) : SR P B n Q p G m k ls l w := fun a ha =>
  rest_end qs hs hQ hB hr (Nat.eq_of_beq_eq_true hm) (h a ha)
theorem SR.back {G : Nat → Prop} {m r j : Nat} {ls qs : List Nat} (hb : Ke G w w') (k : SR P B n Q p G m r (ls ++ (qs ++ [j])) l w') : SQ n (Exit.then (fun a'' w'' => Ke G w w'' ∧ Rest P (opsL B p) Q G r ((marks (listedL m ls) qs).setIfInBounds j true) a'' w'') Q) .normal l w' := fun a ha => ⟨hb, by
  have := k a ha
  unfold listedL at this
  rw [marks_app, marks_app] at this
  exact this⟩
theorem SR.norm {G : Nat → Prop} {m r : Nat} {ls ls' : List Nat} (e : ls = ls') (k : SR P B n Q p G m r ls' l w) : SR P B n Q p G m r ls l w := by subst e; exact k
theorem SU.each1 {j : Nat} {Q' : Nat → Exit → Act → World → Prop} (k : SL P B n (Q' j) p [j] l w) : SU P B n C (fun a' => ∀ q ∈ [j], wpList P (opsL B p).toArray (Q' q) (pickOps (opsL B p) [q]) a' w) p [] l := fun a ha => wpQuiet_nil (all1 (p := fun j => wpList P (opsL B p).toArray (Q' j) (pickOps (opsL B p) [j]) a w) (k a ha))
theorem SU.each2 {i j : Nat} {Q' : Nat → Exit → Act → World → Prop} (k1 : SL P B n (Q' i) p [i] l w) (k2 : SL P B n (Q' j) p [j] l w) : SU P B n C (fun a' => ∀ q ∈ [i, j], wpList P (opsL B p).toArray (Q' q) (pickOps (opsL B p) [q]) a' w) p [] l := fun a ha => wpQuiet_nil (all2 (p := fun j => wpList P (opsL B p).toArray (Q' j) (pickOps (opsL B p) [j]) a w) (k1 a ha) (k2 a ha))
theorem SU.each3 {i j r : Nat} {Q' : Nat → Exit → Act → World → Prop} (k1 : SL P B n (Q' i) p [i] l w) (k2 : SL P B n (Q' j) p [j] l w) (k3 : SL P B n (Q' r) p [r] l w) : SU P B n C (fun a' => ∀ q ∈ [i, j, r], wpList P (opsL B p).toArray (Q' q) (pickOps (opsL B p) [q]) a' w) p [] l := fun a ha => wpQuiet_nil (all3 (p := fun j => wpList P (opsL B p).toArray (Q' j) (pickOps (opsL B p) [j]) a w) (k1 a ha) (k2 a ha) (k3 a ha))
instance ke_ne (G : Nat → Prop) (w : World) : Nonempty (Later (Ke G w)) := ⟨⟨w, Ke.refl _ _⟩⟩
instance bel_ne (w : World) : Nonempty (Later (Below w.heap.size w)) := ⟨⟨w, Below.refl _ _⟩⟩
/-- only what is new since then may be written. -/
def NewG (wd : World) (b : Nat) : Prop := wd.heap.size ≤ b
theorem NewG.bel {wd : World} (h : Ke (NewG wd) wd w) : Below wd.heap.size wd w := h.toBelow (fun i hi q => by unfold NewG at q; omega)
end Go.Proofs.Ytfnibpkojhgflaa
