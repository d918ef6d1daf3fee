/- A REGION THAT DRAWS ITS ORDER and stores once into a block that was there ('x, _ = f(g(y))'): segments of operations that yield one value in every later world, each with one forced call behind it; then such as read the frame alone; then the store, behind which some of the last may come up. One walk serves every order. Over whatever program. -/
import Derived.Test.YtfnibpkojhgflaaMix
namespace Go.Proofs.Ytfnibpkojhgflaa
set_option linter.unusedVariables false
set_option linter.unusedSimpArgs false
open Go.RowKit

section
variable {P : Program} {ops : Array Oper} {Q : Exit → Act → World → Prop} {S S' : World → Prop} {T : Nat}

/-- whatever order is picked; S holds behind each operation till T has come up. -/
def wpAnyL (P : Program) (ops : Array Oper) (Q : Exit → Act → World → Prop) (T : Nat) (S : World → Prop) : Nat → Array Bool → Act → World → Prop
  | 0, L, a, w => Region.ready .any ops L = [] ∧ Q .normal a w
  | fuel + 1, L, a, w => (Region.ready .any ops L = [] → Q .normal a w) ∧
    ∀ i ∈ Region.ready .any ops L, wpOp P ops Q i (fun a' w' => ((L.setIfInBounds i true).getD T false = false → S w') ∧ wpAnyL P ops Q T S fuel (L.setIfInBounds i true) a' w') a w

theorem wpAny_of_L : ∀ (fuel : Nat) (L : Array Bool) (a : Act) (w : World), wpAnyL P ops Q T S fuel L a w → wpAny P .any ops Q fuel L a w
  | 0, _, _, _, h => h
  | fuel + 1, _, _, _, h => ⟨h.1, fun i hi => wpOp_mono (fun a' w' h' => wpAny_of_L fuel _ a' w' h'.2) (h.2 i hi)⟩

theorem wpAnyL_weak (h : ∀ w, S' w → S w) : ∀ (fuel : Nat) (L : Array Bool) (a : Act) (w : World), wpAnyL P ops Q T S' fuel L a w → wpAnyL P ops Q T S fuel L a w
  | 0, _, _, _, hh => hh
  | fuel + 1, _, _, _, hh => ⟨hh.1, fun i hi => wpOp_mono (fun a' w' h' => ⟨fun hT => h w' (h'.1 hT), wpAnyL_weak h fuel _ a' w' h'.2⟩) (hh.2 i hi)⟩

/-- what has come up has what it waits for behind it. -/
def Shut (ops : Array Oper) (L : Array Bool) : Prop := ∀ (k : Nat) (o : Oper), L.getD k false = true → ops[k]? = some o → ∀ e ∈ o.after, Region.binds .any e = true → L.getD e.on false = true

theorem Shut.set {L : Array Bool} {j : Nat} (h : Shut ops L) (hj : j ∈ Region.ready .any ops L) : Shut ops (L.setIfInBounds j true) := by
  intro k o hk ho e he hb
  by_cases hkj : j = k
  · subst hkj
    obtain ⟨_, o', h2, h3⟩ := mem_ready.1 hj
    rw [ho] at h2; cases h2
    exact getD_set_true (h3 e he hb)
  · rw [getD_set_ne false hkj] at hk
    exact getD_set_true (h k o hk ho e he hb)

/-- the worlds in which i may come up. -/
def May (ops : Array Oper) (T : Nat) (S : World → Prop) (i : Nat) (w : World) : Prop := ∃ L : Array Bool, Shut ops L ∧ L.getD i true = false ∧ (L.getD T false = false → S w)

theorem wpAnyL_first {i : Nat} {oi : Oper} {v : Value} (hi : ops[i]? = some oi) (hiT : i ≠ T) (hsel : ∀ (j : Nat) (o : Oper) cs b, ops[j]? = some o → o.op ≠ .select cs b)
    (hQ : ∀ c a w, Q (.panic c) (a.put oi.dst v) w → Q (.panic c) a w) : ∀ (fuel : Nat) (L : Array Bool) (a : Act) (w : World),
      (∀ j oj, ops[j]? = some oj → j ≠ i → L.getD j true = false → (∀ e ∈ oj.after, Region.binds .any e = true → e.on ≠ i) → oi.apart ops oj = true) →
      i ∈ Region.ready .any ops L → YieldsIf P ops (May ops T S i) oi v a → Shut ops L → (L.getD T false = false → S w) →
      wpAnyL P ops Q T S fuel (L.setIfInBounds i true) (a.put oi.dst v) w → wpAnyL P ops Q T S (fuel + 1) L a w := by
  intro fuel
  induction fuel with
  | zero =>
    intro L a w _ hr hy hc hS H
    refine ⟨fun h => (by rw [h] at hr; cases hr), fun j hj => ?_⟩
    by_cases hji : j = i
    · subst hji; exact hy.wpOp hi ⟨L, hc, (mem_ready.1 hr).1, hS⟩ ⟨fun h => hS (by rwa [getD_set_ne false hiT] at h), H⟩
    · have := ready_mono hj hji
      rw [H.1] at this
      cases this
  | succ fuel ih =>
    intro L a w hfree hr hy hc hS H
    refine ⟨fun h => (by rw [h] at hr; cases hr), fun j hj => ?_⟩
    by_cases hji : j = i
    · subst hji; exact hy.wpOp hi ⟨L, hc, (mem_ready.1 hr).1, hS⟩ ⟨fun h => hS (by rwa [getD_set_ne false hiT] at h), H⟩
    · have h1 := H.2 j (ready_mono hj hji)
      obtain ⟨hjun, oj, hoj, hall⟩ := mem_ready.1 hj
      have hnot : ∀ e ∈ oj.after, Region.binds .any e = true → e.on ≠ i := fun e he hb heq => by
        have h1 := hall e he hb
        have h0 := (mem_ready.1 hr).1
        rw [heq] at h1
        rcases Nat.lt_or_ge i L.size with h' | h'
        · simp [h'] at h0 h1; rw [h0] at h1; cases h1
        · simp [Array.getElem?_eq_none h'] at h1
      have h2 := wpOp_putIf hoj (hfree j oj hoj hji hjun hnot) (fun cs b => hsel i oi cs b hi) (fun cs b => hsel j oj cs b hoj) hQ hy h1
      have hfree' : ∀ k ok, ops[k]? = some ok → k ≠ i → (L.setIfInBounds j true).getD k true = false →
          (∀ e ∈ ok.after, Region.binds .any e = true → e.on ≠ i) → oi.apart ops ok = true := fun k ok hk hki hun hno => by
        refine hfree k ok hk hki ?_ hno
        by_cases hjk : j = k
        · subst hjk; exact hjun
        · rw [getD_set_ne true hjk] at hun; exact hun
      refine wpOp_mono (fun a' w' h3 => ?_) h2
      obtain ⟨h4, h5, h6⟩ := h3
      rw [Array.setIfInBounds_comm _ _ (Ne.symm hji)] at h5 h6
      have h7 : (L.setIfInBounds j true).getD T false = false → S w' := fun h => h5 (by rw [getD_set_ne false hiT]; exact h)
      exact ⟨h7, ih (L.setIfInBounds j true) a' w' hfree' (ready_mono hr (Ne.symm hji)) h4 (hc.set hj) h7 h6⟩

end

/-- the store waits, by way of others, for each of a list: each is waited for by one before it. -/
def ancB (ops : Array Oper) : List Nat → List Nat → Bool
  | [], _ => true
  | k :: ks, pre => pre.any (fun j => match ops[j]? with | some o => o.after.any (fun e => Region.binds .any e && e.on == k) | none => false) && ancB ops ks (k :: pre)

theorem anc_spec {ops : Array Oper} {L : Array Bool} (hc : Shut ops L) : ∀ (ks pre : List Nat), ancB ops ks pre = true → (∀ j ∈ pre, L.getD j false = true) → ∀ k ∈ ks, L.getD k false = true
  | [], _, _, _ => fun _ h => (List.not_mem_nil h).elim
  | k :: ks, pre, hB, hp => by
    simp only [ancB, Bool.and_eq_true, List.any_eq_true] at hB
    obtain ⟨⟨j, hj, hm⟩, h2⟩ := hB
    have hk : L.getD k false = true := by
      cases ho : ops[j]? with
      | none => rw [ho] at hm; cases hm
      | some o =>
        rw [ho] at hm
        simp only [Array.any_eq_true'] at hm
        obtain ⟨e, he, h3⟩ := hm
        simp only [Bool.and_eq_true, beq_iff_eq] at h3
        rw [← h3.2]
        exact hc j o (hp j hj) ho e he h3.1
    intro x hx
    rcases List.mem_cons.1 hx with rfl | hx
    · exact hk
    · exact anc_spec hc ks (k :: pre) h2 (fun j hj => by rcases List.mem_cons.1 hj with rfl | hj; exact hk; exact hp j hj) x hx

def mixTB (ops : Array Oper) (qsT : List Nat) (T : Nat) (early : List Nat) : List (List Nat × Nat) → Array Bool → Bool
  | [], L => quietsB ops qsT L && (Region.ready .any ops (marks L qsT) == [T]) && (Region.ready .any ops ((marks L qsT).setIfInBounds T true)).isEmpty && qsT.all (· != T) && !L.getD T true && ((marks L qsT).setIfInBounds T true).getD T false
  | (qs, i) :: rest, L => quietsB ops qs L && (Region.ready .any ops (marks L qs) == [i]) && qs.all (fun q => early.contains q && q != T) && (i != T) && !L.getD T true && mixTB ops qsT T early rest ((marks L qs).setIfInBounds i true)
def totalT (qsT : List Nat) : List (List Nat × Nat) → Nat
  | [] => 1 + qsT.length
  | (qs, _) :: rest => totalT qsT rest + 1 + qs.length
def tailB (l : List Oper) (sched : List (List Nat × Nat)) (qsT : List Nat) (T : Nat) (early : List Nat) : Bool :=
  Region.noSelect l.toArray && totalT qsT sched == l.toArray.size && ancB l.toArray early [T] && mixTB l.toArray qsT T early sched (Array.replicate l.toArray.size false)

section
variable {P : Program} {l : List Oper} {Q : Exit → Act → World → Prop} {S : World → Prop} {T : Nat}

theorem marks_T {T : Nat} : ∀ (is : List Nat) (L : Array Bool) (d : Bool), (∀ i ∈ is, i ≠ T) → (marks L is).getD T d = L.getD T d
  | [], _, _, _ => rfl
  | i :: is, L, d, h => by rw [marks, marks_T is _ _ (fun j hj => h j (List.mem_cons_of_mem _ hj)), getD_set_ne d (h i (List.mem_cons_self ..))]

theorem getD_bit {L : Array Bool} {T : Nat} (h : L.getD T true = false) : L.getD T false = false := by
  rcases Nat.lt_or_ge T L.size with h' | h'
  · simp [h'] at h ⊢; exact h
  · simp [Array.getElem?_eq_none h']

theorem quiets_takeT (C : World → Prop) (hs : Region.noSelect l.toArray = true) (hQ : ∀ c a d v w, Q (.panic c) (Act.put a d v) w → Q (.panic c) a w) {w : World} (hS : S w) (fuel : Nat) : ∀ (is : List Nat) (L : Array Bool) (a : Act),
    (∀ i ∈ is, i ≠ T) → (∀ i ∈ is, ∀ w', May l.toArray T S i w' → C w') → Shut l.toArray L →
    quietsB l.toArray is L = true → wpQuiet P l.toArray (fun w' => ∃ x : Later C, w' = x.w) (fun a' => ∀ L', Shut l.toArray L' → L' = marks L is → wpAnyL P l.toArray Q T S fuel (marks L is) a' w) (pickOps l is) a →
    wpAnyL P l.toArray Q T S (fuel + is.length) L a w
  | [], L, a, _, _, hc, _, h => h L hc rfl
  | i :: is, L, a, hT, hC, hc, hB, h => by
    simp only [quietsB, Bool.and_eq_true] at hB
    obtain ⟨⟨⟨h1, h2⟩, h3⟩, h4⟩ := hB
    have hi : l.toArray[i]? = nth l i := by rw [nth_eq]; simp
    have hrd : i ∈ Region.ready .any l.toArray L := by simpa using h1
    cases ho : nth l i with
    | none => rw [hi, ho] at h3; simp at h3
    | some o =>
      rw [hi, ho] at h3
      rw [ho] at hi
      simp only [pickOps, ho, wpQuiet] at h
      show wpAnyL P l.toArray Q T S ((fuel + is.length) + 1) L a w
      have hTi := hT i (List.mem_cons_self ..)
      have hCi := hC i (List.mem_cons_self ..)
      have rest := fun a' h' => quiets_takeT C hs hQ hS fuel is (L.setIfInBounds i true) a' (fun j hj => hT j (List.mem_cons_of_mem _ hj)) (fun j hj => hC j (List.mem_cons_of_mem _ hj)) (hc.set hrd) h4 h'
      split at h
      · rename_i hw
        obtain ⟨v, hv, hn⟩ := h
        refine wpAnyL_first hi hTi (Region.noSelect_spec hs) (fun c a w => hQ c a o.dst v w) _ _ _ _ (Region.free_spec hi h2) hrd (v := v) (.inl ⟨hw, fun w' hw' => ?_⟩) hc (fun _ => hS) (rest _ hn)
        have h5 := hv w' ⟨⟨w', hCi w' hw'⟩, rfl⟩
        have h6 := pureOp_value (P := P) h3 a.eval w'
        unfold Oper.quietAt at h5
        generalize (execOp a.eval o).run P w' = r at h5 h6
        cases r with
        | halt x w'' => exact h5.elim
        | ok n w'' =>
          cases n with
          | value u =>
            simp only [Oper.quietUpon] at h5
            obtain ⟨rfl, rfl⟩ := h5
            rfl
          | _ => exact h6.elim
      · rename_i hw
        exact wpAnyL_first hi hTi (Region.noSelect_spec hs) (fun c a w => hQ c a o.dst undef w) _ _ _ _ (Region.free_spec hi h2) hrd (v := undef) (.inr ⟨by simpa using hw, rfl⟩) hc (fun _ => hS) (rest _ h)

/-- in segments; the last one's operations yield the same in whatever world; then the store. -/
def wpMixT (P : Program) (l : List Oper) (Q : Exit → Act → World → Prop) (qsT : List Nat) (T : Nat) : List (List Nat × Nat) → Act → World → Prop
  | [], a, w => wpQuiet P l.toArray (fun w' => ∃ x : Later (fun _ => True), w' = x.w) (fun a' => wpList P l.toArray (Exit.then (fun a'' w'' => Q .normal a'' w'') Q) (pickOps l [T]) a' w) (pickOps l qsT) a
  | (qs, i) :: rest, a, w => wpQuiet P l.toArray (fun w' => ∃ x : Later (RowKit.Below w.heap.size w), w' = x.w)
      (fun a' => wpList P l.toArray (Exit.then (fun a'' w'' => RowKit.Below w.heap.size w w'' ∧ wpMixT P l Q qsT T rest a'' w'') Q) (pickOps l [i]) a' w) (pickOps l qs) a

theorem op_of_list {L : Array Bool} {i : Nat} {K : Act → World → Prop} {a : Act} {w : World} (hr : i ∈ Region.ready .any l.toArray L) (h : wpList P l.toArray (Exit.then K Q) (pickOps l [i]) a w) : wpOp P l.toArray Q i K a w := by
  have hi : l.toArray[i]? = nth l i := by rw [nth_eq]; simp
  unfold wpOp
  rw [hi]
  cases ho : nth l i with
  | none =>
    rw [ho] at hi
    obtain ⟨_, o, hoo, _⟩ := mem_ready.1 hr
    rw [hi] at hoo
    cases hoo
  | some o =>
    simp only [pickOps, ho, wpList] at h
    simp only
    split
    · rename_i hw
      simp only [hw, if_true] at h
      rcases h with h | h
      · exact .inl (Oper.wp_mono (fun a' w' h => h) (wp_then h))
      · exact .inr h
    · rename_i hw
      simp only [hw] at h
      exact h

theorem mixT_any (hs : Region.noSelect l.toArray = true) (hQ : ∀ c a d v w, Q (.panic c) (Act.put a d v) w → Q (.panic c) a w) {qsT early : List Nat} (ha : ancB l.toArray early [T] = true) : ∀ (sched : List (List Nat × Nat)) (L : Array Bool) (a : Act) (w : World),
    Shut l.toArray L → mixTB l.toArray qsT T early sched L = true → wpMixT P l Q qsT T sched a w → wpAnyL P l.toArray Q T (RowKit.Below w.heap.size w) (totalT qsT sched) L a w
  | [], L, a, w, hc, hB, h => by
    simp only [mixTB, Bool.and_eq_true, beq_iff_eq, List.isEmpty_iff, List.all_eq_true, bne_iff_ne, Bool.not_eq_true'] at hB
    obtain ⟨⟨⟨⟨⟨h1, h2⟩, h3⟩, h4⟩, h5⟩, h6⟩ := hB
    unfold wpMixT at h
    refine quiets_takeT (fun _ => True) hs hQ (RowKit.Below.refl _ _) 1 qsT L a h4 (fun _ _ _ _ => trivial) hc h1 ?_
    refine wpQuiet_mono (fun a' h' => ?_) _ _ h
    rintro L' hc' rfl
    refine ⟨fun h0 => (by rw [h2] at h0; cases h0), fun j hj => ?_⟩
    have hj' := hj
    rw [h2] at hj'
    obtain rfl : j = T := by simpa using hj'
    refine wpOp_mono (fun a'' w'' hh => ?_) (op_of_list hj h')
    exact ⟨fun h0 => (by rw [h6] at h0; cases h0), h3, hh⟩
  | (qs, i) :: rest, L, a, w, hc, hB, h => by
    simp only [mixTB, Bool.and_eq_true, beq_iff_eq, List.all_eq_true, bne_iff_ne, Bool.not_eq_true'] at hB
    obtain ⟨⟨⟨⟨⟨h1, h2⟩, h3⟩, h4⟩, h5⟩, h6⟩ := hB
    unfold wpMixT at h
    refine quiets_takeT (RowKit.Below w.heap.size w) hs hQ (RowKit.Below.refl _ _) (totalT qsT rest + 1) qs L a (fun q hq => (h3 q hq).2) (fun q hq w' hm => ?_) hc h1 ?_
    · obtain ⟨L', hc', hq', hS'⟩ := hm
      refine hS' ?_
      cases hT : L'.getD T false with
      | false => rfl
      | true =>
        have := anc_spec hc' early [T] ha (fun j hj => by obtain rfl := List.mem_singleton.1 hj; exact hT) q (by simpa using (h3 q hq).1)
        rw [getD_bit hq'] at this
        cases this
    · refine wpQuiet_mono (fun a' h' => ?_) _ _ h
      rintro L' hc' rfl
      refine ⟨fun h0 => (by rw [h2] at h0; cases h0), fun j hj => ?_⟩
      have hj' := hj
      rw [h2] at hj'
      obtain rfl : j = i := by simpa using hj'
      refine wpOp_mono (fun a'' w'' hh => ?_) (op_of_list hj h')
      exact ⟨fun _ => hh.1, wpAnyL_weak (fun w' hw' => hh.1.trans (hw'.mono hh.1.size)) _ _ _ _ (mixT_any hs hQ ha rest _ a'' w'' (hc'.set hj) h6 hh.2)⟩

/-- THE LAW. -/
theorem wp_region_tail {id : Nat} {a : Act} {w : World} (sched : List (List Nat × Nat)) (qsT : List Nat) (T : Nat) (early : List Nat) (hm : P.follows .mixedOrders = true) (hB : tailB l sched qsT T early = true)
    (hQ : ∀ c a d v w, Q (.panic c) (Act.put a d v) w → Q (.panic c) a w) (h : ∀ wd, RowKit.Below w.heap.size w wd → wpMixT P l Q qsT T sched a wd) : (Code.region id l.toArray true).wp P Q a w := by
  simp only [tailB, Bool.and_eq_true, beq_iff_eq] at hB
  obtain ⟨⟨⟨h1, h2⟩, h3⟩, h4⟩ := hB
  refine wp_region_any hm ?_
  have h5 : wpAnyL P l.toArray Q T (RowKit.Below w.drew.heap.size w.drew) (totalT qsT sched) (Array.replicate l.toArray.size false) a w.drew := by
    refine mixT_any h1 hQ h3 sched _ a w.drew (fun k o hk => ?_) h4 (h _ (RowKit.Below.refl _ _).drew)
    rw [Array.getD_eq_getD_getElem?, Array.getElem?_replicate] at hk
    split at hk <;> cases hk
  rw [h2] at h5
  exact wpAny_of_L _ _ _ _ h5

end

theorem mixT_step {P : Program} {l : List Oper} {Q : Exit → Act → World → Prop} {a : Act} {w : World} {qs : List Nat} {i : Nat} {rest : List (List Nat × Nat)} {qsT : List Nat} {T : Nat}
    (h : wpQuiet P l.toArray (fun w' => ∃ x : Later (RowKit.Below w.heap.size w), w' = x.w) (fun a' => wpList P l.toArray (Exit.then (fun a'' w'' => RowKit.Below w.heap.size w w'' ∧ wpMixT P l Q qsT T rest a'' w'') Q) (pickOps l [i]) a' w) (pickOps l qs) a) : wpMixT P l Q qsT T ((qs, i) :: rest) a w := h
theorem mixT_end {P : Program} {l : List Oper} {Q : Exit → Act → World → Prop} {a : Act} {w : World} {qsT : List Nat} {T : Nat}
    (h : wpQuiet P l.toArray (fun w' => ∃ x : Later (fun _ => True), w' = x.w) (fun a' => wpList P l.toArray (Exit.then (fun a'' w'' => Q .normal a'' w'') Q) (pickOps l [T]) a' w) (pickOps l qsT) a) : wpMixT P l Q qsT T [] a w := h
instance later_any [h : Nonempty World] : Nonempty (Later (fun _ => True)) := h.elim fun w => ⟨⟨w, trivial⟩⟩

end Go.Proofs.Ytfnibpkojhgflaa
