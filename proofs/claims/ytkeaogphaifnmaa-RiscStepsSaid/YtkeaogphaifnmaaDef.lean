/- A REGION THAT DRAWS ITS ORDER and lays new variables in it ('x, e := f(g(y))'): operations that yield one value in every later world (reckonings, loads of old cells, calls that at most make memory), new variables, stores of the values into them. One walk serves every order. Over whatever program. -/
import Derived.Test.YtkeaogphaifnmaaSepMore
namespace Go.Proofs.Ytkeaogphaifnmaa
set_option linter.unusedVariables false
set_option linter.unusedSimpArgs false
open Go.RowKit

section
variable {P : Program} {ops : Array Oper} {Q : Exit → Act → World → Prop}

/-- what holds at the start and is kept by every operation that may come up holds at the end. -/
theorem any_inv {Inv : Array Bool → Act → World → Prop} (fin : ∀ L a w, Inv L a w → Region.ready .any ops L = [] → Q .normal a w)
    (step : ∀ L a w i, Inv L a w → i ∈ Region.ready .any ops L → wpOp P ops Q i (fun a' w' => Inv (L.setIfInBounds i true) a' w') a w) :
    ∀ (fuel : Nat) (L : Array Bool) (a : Act) (w : World), Inv L a w → L.size = ops.size → (L.toList.filter (· = false)).length ≤ fuel → wpAnyH P .any ops Q (fun _ => True) fuel L a w
  | 0, L, a, w, h, hs, hf => by
    have hr : Region.ready .any ops L = [] := by
      rw [List.eq_nil_iff_forall_not_mem]
      intro j hj
      obtain ⟨h1, o, h2, _⟩ := mem_ready.1 hj
      have hlt : j < L.size := by rw [hs]; exact (Array.getElem?_eq_some_iff.1 h2).1
      have hm : L[j] ∈ L.toList.filter (· = false) := by
        rw [List.mem_filter]
        refine ⟨by simp, ?_⟩
        simp [hlt] at h1
        simp [h1]
      have : (L.toList.filter (· = false)) = [] := List.length_eq_zero_iff.1 (by omega)
      rw [this] at hm; cases hm
    exact ⟨hr, fin _ _ _ h hr⟩
  | fuel + 1, L, a, w, h, hs, hf => by
    refine ⟨fun hr => fin _ _ _ h hr, fun i hi => wpOp_mono (fun a' w' h' => ⟨trivial, any_inv fin step fuel _ a' w' h' (by simpa using hs) ?_⟩) (step L a w i h hi)⟩
    obtain ⟨h1, o, h2, _⟩ := mem_ready.1 hi
    have hlt : i < L.size := by rw [hs]; exact (Array.getElem?_eq_some_iff.1 h2).1
    have hfi : L[i] = false := by simpa [hlt] using h1
    have hL : L.toList = L.toList.take i ++ L[i] :: L.toList.drop (i + 1) := by
      have := (List.take_append_drop i L.toList).symm
      rwa [List.drop_eq_getElem_cons (by rw [Array.length_toList]; exact hlt), Array.getElem_toList] at this
    have e1 : (L.setIfInBounds i true).toList = L.toList.take i ++ true :: L.toList.drop (i + 1) := by
      rw [Array.toList_setIfInBounds, List.set_eq_take_append_cons_drop, if_pos (by rw [Array.length_toList]; exact hlt)]
    rw [e1, List.filter_append, List.filter_cons]
    rw [hL, List.filter_append, List.filter_cons, hfi] at hf
    simp only [List.length_append, decide_true, if_true, List.length_cons] at hf
    simp only [List.length_append]
    have : decide (true = false) = false := rfl
    rw [this]
    simp only [Bool.false_eq_true, if_false]
    omega

end

def dstOf (l : List Oper) (i : Nat) : Option Tmp := (nth l i).bind (·.dst)
theorem nth_arr (l : List Oper) (i : Nat) : l.toArray[i]? = nth l i := by rw [nth_eq]; simp

/-- o yields v, and the world is a later one. -/
def YieldsB (P : Program) (o : Oper) (ρ : Operand → Value) (w : World) (v : Value) : Prop :=
  match (execOp ρ o).run P w with
  | .ok (.value u) w' => u = v ∧ Below w.heap.size w w'
  | .ok .skip w' => undef = v ∧ Below w.heap.size w w'
  | .ok (.row row args) w' => Rows P row args w' fun u w'' => u = v ∧ Below w.heap.size w w''
  | .ok (.enter f args) w' => Calls P f args w' fun e w'' => e = .returned v ∧ Below w.heap.size w w''
  | _ => False

theorem put_inj {a : Act} {d : Tmp} {u v : Value} (hd : d < a.tmps.size) (h : a.put (some d) u = a.put (some d) v) : u = v := by
  have h1 := congrArg (fun x : Act => x.tmps[d]?) h
  simp [Act.put, hd] at h1
  exact h1

theorem YieldsB.of_wp {P : Program} {o : Oper} {a : Act} {w : World} {v : Value} {d : Tmp} (hd : o.dst = some d) (hs : d < a.tmps.size)
    (h : o.wp P a w (fun a2 w2 => a2 = a.put o.dst v ∧ Below w.heap.size w w2) (fun _ _ _ => False)) : YieldsB P o a.eval w v := by
  unfold Oper.wp at h
  unfold YieldsB
  rw [hd] at h
  generalize (execOp a.eval o).run P w = r at h
  cases r with
  | ok n w' =>
    cases n <;> simp only [Oper.upon, hd] at h ⊢
    all_goals first
      | exact ⟨put_inj hs h.1, h.2⟩
      | (refine Calls.mono h fun e w'' he => ?_
         cases e with
         | returned u => exact ⟨by rw [put_inj hs he.1], he.2⟩
         | panicked c => exact he.elim
         | outgrown => obtain ⟨a', w3, h3⟩ := he; exact h3.elim)
      | exact Rows.mono h fun u w'' he => ⟨put_inj hs he.1, he.2⟩
      | (have h1 := congrArg (fun x : Act => x.defers.length) h.1; simp [Act.put] at h1)
  | halt x w' => cases x <;> simp only [Oper.upon] at h

/-- the canonical run of the operations that yield values. -/
def TraceV (P : Program) (l : List Oper) (C : World → Prop) (vals : Nat → Value) : List Nat → Act → Act → Prop
  | [], a, b => a = b
  | i :: is, a, b => ∃ o, nth l i = some o ∧ (∀ w1, C w1 → YieldsB P o a.eval w1 (vals i)) ∧ TraceV P l C vals is (a.put o.dst (vals i)) b

theorem TraceV.congr {P : Program} {l : List Oper} {C : World → Prop} {f g : Nat → Value} : ∀ (is : List Nat) (a b : Act), (∀ i ∈ is, f i = g i) → TraceV P l C f is a b → TraceV P l C g is a b
  | [], a, b, _, h => h
  | i :: is, a, b, hfg, ⟨o, h1, h2, h3⟩ => by
    have e := hfg i (by simp)
    refine ⟨o, h1, fun w1 hw => e ▸ h2 w1 hw, ?_⟩
    rw [← e]
    exact TraceV.congr is _ b (fun j hj => hfg j (List.mem_cons_of_mem _ hj)) h3

/-- the walk: quiet operations, then a call, and so on. -/
def wpDefW (P : Program) (l : List Oper) (C : World → Prop) (K : Act → Prop) : List (List Nat × Nat) → List Nat → Act → Prop
  | [], fin, a => wpQuiet P l.toArray C K (pickOps l fin) a
  | (qs, i) :: rest, fin, a => wpQuiet P l.toArray C (fun a' => ∃ v, (∀ w1, C w1 → ∀ o, nth l i = some o → o.wp P a' w1 (fun a2 w2 => a2 = a'.put o.dst v ∧ Below w1.heap.size w1 w2) (fun _ _ _ => False)) ∧
      ∀ o, nth l i = some o → wpDefW P l C K rest fin (a'.put o.dst v)) (pickOps l qs) a

def orderOf : List (List Nat × Nat) → List Nat → List Nat
  | [], fin => fin
  | (qs, i) :: rest, fin => qs ++ i :: orderOf rest fin

/-- of a list of operations: each is there, unguarded, and of the kind that yields a value alone. -/
def plainB (l : List Oper) (pure : Bool) (is : List Nat) : Bool := is.all fun i => match nth l i with
  | some o => o.guard.isNone && (!pure || pureOp o.op) && o.dst.isSome
  | none => false

theorem quiet_trace {P : Program} {l : List Oper} {C : World → Prop} (hC : ∃ w, C w) {K : Act → Prop} : ∀ (qs : List Nat) (a : Act), plainB l true qs = true → qs.Nodup → wpQuiet P l.toArray C K (pickOps l qs) a → ∃ vals b, TraceV P l C vals qs a b ∧ K b
  | [], a, _, _, h => ⟨fun _ => undef, a, rfl, h⟩
  | i :: qs, a, hp, hnd, h => by
    simp only [plainB, List.all_cons, Bool.and_eq_true] at hp
    obtain ⟨hp1, hp2⟩ := hp
    cases ho : nth l i with
    | none => rw [ho] at hp1; simp at hp1
    | some o =>
      rw [ho] at hp1
      simp only [Bool.and_eq_true, Bool.not_true, Bool.false_or] at hp1
      obtain ⟨⟨hg, hpure⟩, hdst⟩ := hp1
      simp only [pickOps, ho, wpQuiet] at h
      rw [if_pos (by unfold Region.wanted; cases hgg : o.guard with | none => rfl | some x => rw [hgg] at hg; simp at hg)] at h
      obtain ⟨v, hv, hn⟩ := h
      obtain ⟨vals, b, ht, hk⟩ := quiet_trace hC qs _ hp2 (List.nodup_cons.1 hnd).2 hn
      refine ⟨fun k => if k = i then v else vals k, b, ⟨o, ho, fun w1 hw1 => ?_, ?_⟩, hk⟩
      · dsimp only
        rw [if_pos rfl]
        have h5 := hv w1 hw1
        have h6 := pureOp_value (P := P) hpure a.eval w1
        unfold Oper.quietAt at h5
        unfold YieldsB
        generalize (execOp a.eval o).run P w1 = r at h5 h6
        cases r with
        | halt x w'' => exact h5.elim
        | ok n w'' =>
          cases n with
          | value u =>
            simp only [Oper.quietUpon] at h5
            obtain ⟨rfl, rfl⟩ := h5
            exact ⟨rfl, Below.refl _ _⟩
          | _ => exact h6.elim
      · simp only [if_true]
        exact TraceV.congr qs _ b (fun j hj => by
          have hji : j ≠ i := fun e => (List.nodup_cons.1 hnd).1 (by rw [← e]; exact hj)
          skip
          rw [if_neg hji]) ht

theorem TraceV.append {P : Program} {l : List Oper} {C : World → Prop} {f : Nat → Value} : ∀ (is js : List Nat) (a b c : Act), TraceV P l C f is a b → TraceV P l C f js b c → TraceV P l C f (is ++ js) a c
  | [], js, a, b, c, h, k => by cases h; exact k
  | i :: is, js, a, b, c, ⟨o, h1, h2, h3⟩, k => ⟨o, h1, h2, TraceV.append is js _ b c h3 k⟩

theorem TraceV.split {P : Program} {l : List Oper} {C : World → Prop} {f : Nat → Value} : ∀ (is js : List Nat) (a c : Act), TraceV P l C f (is ++ js) a c → ∃ b, TraceV P l C f is a b ∧ TraceV P l C f js b c
  | [], js, a, c, h => ⟨a, rfl, h⟩
  | i :: is, js, a, c, ⟨o, h1, h2, h3⟩ => let ⟨b, h4, h5⟩ := TraceV.split is js _ c h3; ⟨b, ⟨o, h1, h2, h4⟩, h5⟩

theorem size_put (a : Act) (d : Option Tmp) (v : Value) : (a.put d v).tmps.size = a.tmps.size := by cases d <;> simp [Act.put]
theorem TraceV.size {P : Program} {l : List Oper} {C : World → Prop} {f : Nat → Value} : ∀ (is : List Nat) (a b : Act), TraceV P l C f is a b → b.tmps.size = a.tmps.size ∧ b.defers = a.defers
  | [], a, b, h => by cases h; exact ⟨rfl, rfl⟩
  | i :: is, a, b, ⟨o, h1, h2, h3⟩ => by
    have := TraceV.size is _ b h3
    rw [size_put] at this
    refine ⟨this.1, this.2.trans ?_⟩
    cases o.dst <;> rfl

theorem def_trace {P : Program} {l : List Oper} {C : World → Prop} (hC : ∃ w, C w) {K : Act → Prop} : ∀ (sched : List (List Nat × Nat)) (fin : List Nat) (a : Act),
    (∀ s ∈ sched, plainB l true s.1 = true ∧ plainB l false [s.2] = true) → plainB l true fin = true → (orderOf sched fin).Nodup → (∀ o ∈ l, ∀ d, o.dst = some d → d < a.tmps.size) →
    wpDefW P l C K sched fin a → ∃ vals b, TraceV P l C vals (orderOf sched fin) a b ∧ K b
  | [], fin, a, _, hf, hnd, _, h => quiet_trace hC fin a hf hnd h
  | (qs, i) :: rest, fin, a, hs, hf, hnd, hsz, h => by
    obtain ⟨hq, hi⟩ := hs _ (List.mem_cons_self ..)
    simp only [orderOf] at hnd ⊢
    have hnd' := List.nodup_append.1 hnd
    obtain ⟨vals, b, ht, v, hv, hn⟩ := quiet_trace hC qs a hq hnd'.1 h
    simp only [plainB, List.all_cons, List.all_nil, Bool.and_true] at hi
    cases ho : nth l i with
    | none => rw [ho] at hi; simp at hi
    | some o =>
      rw [ho] at hi
      simp only [Bool.and_eq_true] at hi
      have hmem : o ∈ l := by rw [nth_eq] at ho; exact List.mem_of_getElem? ho
      obtain ⟨d, hd⟩ := Option.isSome_iff_exists.1 hi.2
      have hsb := (TraceV.size _ _ _ ht).1
      obtain ⟨vals2, b2, ht2, hk⟩ := def_trace hC rest fin (b.put o.dst v) (fun s hs' => hs s (List.mem_cons_of_mem _ hs')) hf (List.nodup_cons.1 hnd'.2.1).2
        (fun o' ho' d' hd' => by rw [size_put, hsb]; exact hsz o' ho' d' hd') (hn o ho)
      have hdis := hnd'.2.2
      refine ⟨fun k => if k ∈ qs then vals k else if k = i then v else vals2 k, b2, TraceV.append qs _ a b b2 ?_ ⟨o, ho, fun w1 hw1 => ?_, ?_⟩, hk⟩
      · exact TraceV.congr qs a b (fun j hj => by rw [if_pos hj]) ht
      · have hni : i ∉ qs := fun hh => hdis _ hh _ (List.mem_cons_self ..) rfl
        dsimp only
        rw [if_neg hni, if_pos rfl]
        exact YieldsB.of_wp hd (by rw [hsb]; exact hsz o hmem d hd) (hv w1 hw1 o ho)
      · have hni : i ∉ qs := fun hh => hdis _ hh _ (List.mem_cons_self ..) rfl
        dsimp only
        rw [if_neg hni, if_pos rfl]
        exact TraceV.congr _ _ b2 (fun j hj => by
          have h1 : j ∉ qs := fun hh => hdis _ hh _ (List.mem_cons_of_mem _ hj) rfl
          have h2 : j ≠ i := fun e => (List.nodup_cons.1 hnd'.2.1).1 (by rw [← e]; exact hj)
          skip
          rw [if_neg h1, if_neg h2]) ht2

end Go.Proofs.Ytkeaogphaifnmaa
