/- THE LAW of regions that lay new variables (XDef): the statics, the invariant, the law. -/
import Derived.Test.YtkeaogphaifnmaaDef
namespace Go.Proofs.Ytkeaogphaifnmaa
set_option linter.unusedVariables false
set_option linter.unusedSimpArgs false
open Go.RowKit

/-- a variable that the region lays: the operation that makes it, the one that stores into it, the pointer's slot, its type, what is stored, its zero cells. -/
structure Dv where
  ia : Nat
  is : Nat
  d : Tmp
  ty : TypeId
  y : Tmp
  z : Array Value

def binds (o : Oper) (j : Nat) : Bool := o.after.any fun e => Region.binds .any e && e.on == j
/-- what an operation reads comes of operations that it waits for, and of such as stand in 'pre'. -/
def readsB (l : List Oper) (pre : List Nat) (o : Oper) (xs : List Operand) : Bool := xs.all fun x => match x with
  | .tmp t => (List.range l.length).all fun j => dstOf l j != some t || (pre.contains j && binds o j)
  | _ => true
def topoB (l : List Oper) : List Nat → List Nat → Bool
  | [], _ => true
  | i :: is, pre => (match nth l i with | some o => o.after.all (fun e => !Region.binds .any e || pre.contains e.on) | none => false) && topoB l is (i :: pre)
def valsB (l : List Oper) : List Nat → List Nat → Bool
  | [], _ => true
  | i :: is, pre => (match nth l i with | some o => o.guard.isNone && readsB l pre o o.op.operands.toList | none => false) && valsB l is (pre ++ [i])
def dvB (l : List Oper) (N : List Nat) (D : Dv) : Bool :=
  (match nth l D.ia with | some o => o.guard.isNone && o.dst == some D.d && (match o.op with | .alloc t => t == D.ty | _ => false) | none => false) &&
  (match nth l D.is with | some o => o.guard.isNone && o.dst.isNone && binds o D.ia && readsB l N o [.tmp D.y] && (match o.op with | .store t (.tmp x) (.tmp y) => t == D.ty && x == D.d && y == D.y | _ => false) | none => false)
def noSel (l : List Oper) : Bool := l.all fun o => match o.op with | .select _ _ => false | _ => true
def orderD (N : List Nat) (Ds : List Dv) : List Nat := N ++ Ds.map (·.ia) ++ Ds.map (·.is)
def defB (l : List Oper) (N : List Nat) (Ds : List Dv) : Bool :=
  noSel l && decide (orderD N Ds).Nodup && (List.range l.length).all (fun i => (orderD N Ds).contains i) && (orderD N Ds).all (fun i => decide (i < l.length)) &&
  topoB l (orderD N Ds) [] && valsB l N [] && Ds.all (dvB l N) && decide ((List.range l.length).filterMap (dstOf l)).Nodup

theorem binds_on {o : Oper} {j : Nat} (h : binds o j = true) : ∃ e ∈ o.after, Region.binds .any e = true ∧ e.on = j := by
  unfold binds at h
  rw [Array.any_eq_true'] at h
  obtain ⟨e, he, h2⟩ := h
  simp only [Bool.and_eq_true, beq_iff_eq] at h2
  exact ⟨e, he, h2⟩

/-- what is ready has what it binds behind it. -/
theorem ready_binds {l : List Oper} {L : Array Bool} {i j : Nat} {o : Oper} (hr : i ∈ Region.ready .any l.toArray L) (ho : nth l i = some o) (hb : binds o j = true) : L.getD j false = true := by
  obtain ⟨_, o', h2, h3⟩ := mem_ready.1 hr
  rw [nth_arr, ho] at h2
  cases h2
  obtain ⟨e, he, h4, h5⟩ := binds_on hb
  have := h3 e he h4
  rwa [h5] at this

/-- where nothing is ready all has come up. -/
theorem all_done {l : List Oper} {L : Array Bool} (hs : L.size = l.length) (hr : Region.ready .any l.toArray L = []) : ∀ (T pre : List Nat), topoB l T pre = true → (∀ i ∈ pre, L.getD i false = true) → (∀ i ∈ T, i < l.length) → ∀ i ∈ T, L.getD i false = true
  | [], _, _, _, _ => fun _ h => (List.not_mem_nil h).elim
  | k :: T, pre, ht, hp, hl => by
    simp only [topoB, Bool.and_eq_true] at ht
    obtain ⟨h1, h2⟩ := ht
    have hk : L.getD k false = true := by
      cases ho : nth l k with
      | none => rw [ho] at h1; simp at h1
      | some o =>
        rw [ho] at h1
        cases hc : L.getD k false with
        | true => rfl
        | false =>
          exfalso
          have hlt : k < L.size := by rw [hs]; exact hl k (List.mem_cons_self ..)
          have hm : k ∈ Region.ready .any l.toArray L := by
            refine mem_ready.2 ⟨?_, o, by rw [nth_arr]; exact ho, fun e he hb => ?_⟩
            · simp [hlt] at hc ⊢; exact hc
            · have := (Array.all_eq_true_iff_forall_mem.1 h1) e he
              simp only [hb, Bool.not_true, Bool.false_or] at this
              exact hp _ (by simpa using this)
          rw [hr] at hm
          cases hm
    intro i hi
    rcases List.mem_cons.1 hi with rfl | hi
    · exact hk
    · exact all_done hs hr T (k :: pre) h2 (fun j hj => by rcases List.mem_cons.1 hj with rfl | hj; exact hk; exact hp j hj) (fun j hj => hl j (List.mem_cons_of_mem _ hj)) i hi

theorem dst_inj {l : List Oper} (h : ((List.range l.length).filterMap (dstOf l)).Nodup) {i j : Nat} {t : Tmp} (hi : dstOf l i = some t) (hj : dstOf l j = some t) : i = j := by
  have lt : ∀ {k : Nat}, dstOf l k = some t → k < l.length := fun {k} hk => by
    unfold dstOf at hk
    rw [nth_eq] at hk
    rcases Nat.lt_or_ge k l.length with h | h
    · exact h
    · rw [List.getElem?_eq_none h] at hk; cases hk
  have hii := lt hi
  have hjj := lt hj
  have key : ∀ (R : List Nat), (R.filterMap (dstOf l)).Nodup → i ∈ R → j ∈ R → R.Nodup → i = j := by
    intro R
    induction R with
    | nil => intro _ h; cases h
    | cons k R ih =>
      intro hn hi' hj' hR
      obtain ⟨hk, hR'⟩ := List.nodup_cons.1 hR
      rcases List.mem_cons.1 hi' with e1 | e1 <;> rcases List.mem_cons.1 hj' with e2 | e2
      · rw [e1, e2]
      · exfalso
        subst e1
        rw [List.filterMap_cons, hi] at hn
        exact (List.nodup_cons.1 hn).1 (List.mem_filterMap.2 ⟨j, e2, hj⟩)
      · exfalso
        subst e2
        rw [List.filterMap_cons, hj] at hn
        exact (List.nodup_cons.1 hn).1 (List.mem_filterMap.2 ⟨i, e1, hi⟩)
      · refine ih ?_ e1 e2 hR'
        rw [List.filterMap_cons] at hn
        cases hd : dstOf l k with
        | none => rw [hd] at hn; exact hn
        | some u => rw [hd] at hn; exact (List.nodup_cons.1 hn).2
  exact key _ h (List.mem_range.2 hii) (List.mem_range.2 hjj) List.nodup_range

/-- the canonical frames. -/
theorem trace_slots {P : Program} {l : List Oper} {C : World → Prop} {vals : Nat → Value} (hd : ((List.range l.length).filterMap (dstOf l)).Nodup) : ∀ (is : List Nat) (a b : Act), TraceV P l C vals is a b → is.Nodup → (∀ o ∈ l, ∀ d, o.dst = some d → d < a.tmps.size) →
    (∀ i ∈ is, ∀ d, dstOf l i = some d → b.tmps[d]? = some (vals i)) ∧ ∀ t, (∀ i ∈ is, dstOf l i ≠ some t) → b.tmps[t]? = a.tmps[t]?
  | [], a, b, h, _, _ => by cases h; exact ⟨fun _ h => (List.not_mem_nil h).elim, fun _ _ => rfl⟩
  | i :: is, a, b, ⟨o, ho, _, h⟩, hn, hs => by
    obtain ⟨hn1, hn2⟩ := List.nodup_cons.1 hn
    have ih := trace_slots hd is _ b h hn2 (fun o' h' d' e' => by rw [size_put]; exact hs o' h' d' e')
    have hdo : dstOf l i = o.dst := by unfold dstOf; rw [ho]; rfl
    have hol : o ∈ l := by rw [nth_eq] at ho; exact List.mem_of_getElem? ho
    refine ⟨fun j hj d hjd => ?_, fun t ht => ?_⟩
    · rcases List.mem_cons.1 hj with rfl | hj
      · rw [ih.2 d (fun k hk e => hn1 (by rw [dst_inj hd hjd e]; exact hk))]
        rw [hdo] at hjd
        have hlt := hs o hol d hjd
        rw [hjd]
        simp [Act.put, hlt]
      · exact ih.1 j hj d hjd
    · rw [ih.2 t (fun k hk => ht k (List.mem_cons_of_mem _ hk))]
      have hne := ht i (List.mem_cons_self ..)
      rw [hdo] at hne
      cases hod : o.dst with
      | none => rfl
      | some d =>
        have : d ≠ t := fun e => hne (by rw [hod, e])
        simp [Act.put, Array.getElem?_setIfInBounds_ne this]

end Go.Proofs.Ytkeaogphaifnmaa
