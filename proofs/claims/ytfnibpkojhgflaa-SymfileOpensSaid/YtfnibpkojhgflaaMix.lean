/- A region that draws its order, in which all that touches memory comes in one forced order, while what merely reads or reckons yields the same in every world of a class: ONE walk serves every order. Over whatever program. -/
import Derived.OrdersHeld
import Derived.BigQuiet
import Derived.Below
namespace Go.Proofs.Ytfnibpkojhgflaa

/-- operations that yield a value and leave the world alone. -/
def pureOp : Op → Bool
  | .move _ | .assign _ | .pick .. | .load .. | .binOp .. | .unOp .. | .convert .. | .slice .. | .fieldAddr .. | .field .. | .indexAddr .. | .index .. | .lookup .. | .extract .. | .build .. | .nilCheck _ => true
  | .call c => match c.callee with | .builtin .len | .builtin .cap | .builtin .min | .builtin .max => true | _ => false
  | _ => false

def onlyValue : Result Next → Prop
  | .ok (.value _) _ => True
  | .ok _ _ => False
  | .halt .. => True

theorem onlyValue_bind {P : Program} (s : Sem Value) (w : World) : onlyValue ((do pure (Next.value (← s)) : Sem Next).run P w) := by
  rw [Sem.run_bind]
  cases h : s.run P w with
  | ok v w' => simp [Result.andThen, Sem.run_pure, onlyValue]
  | halt x w' => simp [Result.andThen, onlyValue]

theorem onlyValue_then {P : Program} {α : Type} (s : Sem α) (f : α → Sem Next) (h : ∀ a w, onlyValue ((f a).run P w)) (w : World) : onlyValue ((s >>= f).run P w) := by
  rw [Sem.run_bind]
  cases hs : s.run P w with
  | ok v w' => exact h v w'
  | halt x w' => trivial

theorem nilCheck_value {P : Program} {o : Oper} {x : Operand} (ho : o.op = .nilCheck x) (ρ : Operand → Value) (w : World) : onlyValue ((execOp ρ o).run P w) := by
  unfold execOp
  rw [ho]
  dsimp only
  split
  · trivial
  · trivial
  · trivial
  · split
    · trivial
    · refine onlyValue_then _ _ (fun a w => ?_) w
      refine onlyValue_then _ _ (fun a w => ?_) w
      split
      · first
          | trivial
          | (refine onlyValue_then _ _ ?_ w; intro a w; trivial)
      · trivial
    · trivial
  · trivial

theorem pureOp_value {P : Program} {o : Oper} (h : pureOp o.op = true) (ρ : Operand → Value) (w : World) : onlyValue ((execOp ρ o).run P w) := by
  obtain ⟨dst, op, ty, pos, aft, grd⟩ := o
  cases op with
  | move x => trivial
  | assign x => trivial
  | pick c a b => 
    simp only [execOp]
    rw [Sem.run_bind]
    cases h : (asBool (ρ c)).run P w with
    | ok v w' => simp [Result.andThen, Sem.run_pure, onlyValue]
    | halt x w' => simp [Result.andThen, onlyValue]
  | load t a => exact onlyValue_bind _ _
  | binOp => exact onlyValue_bind _ _
  | unOp => exact onlyValue_bind _ _
  | convert => exact onlyValue_bind _ _
  | slice => exact onlyValue_bind _ _
  | fieldAddr => exact onlyValue_bind _ _
  | field => exact onlyValue_bind _ _
  | indexAddr => exact onlyValue_bind _ _
  | index => exact onlyValue_bind _ _
  | lookup => exact onlyValue_bind _ _
  | extract => exact onlyValue_bind _ _
  | build => exact onlyValue_bind _ _
  | nilCheck x => exact nilCheck_value (x := x) rfl ρ w
  | call c =>
    obtain ⟨callee, args, tys⟩ := c
    cases callee with
    | builtin b =>
      cases b <;> first | (simp [pureOp] at h; done) | (simp only [execOp, resolve, invoke]; rw [Sem.run_bind]; simp only [Sem.run_pure, Result.andThen]; exact onlyValue_bind _ _)
    | _ => simp [pureOp] at h
  | _ => simp [pureOp] at h

/-- the i-th operation of a region that is written out. -/
def nth : List Oper → Nat → Option Oper
  | [], _ => none
  | o :: _, 0 => some o
  | _ :: l, n + 1 => nth l n
theorem nth_eq : ∀ (l : List Oper) (i : Nat), nth l i = l[i]?
  | [], _ => rfl
  | _ :: _, 0 => rfl
  | _ :: l, n + 1 => by rw [nth, nth_eq l n]; rfl
def pickOps (l : List Oper) : List Nat → List Oper
  | [] => []
  | i :: is => match nth l i with
    | some o => o :: pickOps l is
    | none => pickOps l is

def marks (listed : Array Bool) : List Nat → Array Bool
  | [] => listed
  | i :: is => marks (listed.setIfInBounds i true) is

def quietsB (ops : Array Oper) : List Nat → Array Bool → Bool
  | [], _ => true
  | i :: is, listed => (Region.ready .any ops listed).contains i && Region.free .any ops listed i && (match ops[i]? with | some o => pureOp o.op | none => false) && quietsB ops is (listed.setIfInBounds i true)

def mixB (ops : Array Oper) : List (List Nat × Nat) → List Nat → Array Bool → Bool
  | [], fin, listed => quietsB ops fin listed && (Region.ready .any ops (marks listed fin)).isEmpty
  | (qs, i) :: rest, fin, listed => quietsB ops qs listed && (Region.ready .any ops (marks listed qs) == [i]) && mixB ops rest fin ((marks listed qs).setIfInBounds i true)

def total : List (List Nat × Nat) → List Nat → Nat
  | [], fin => fin.length
  | (qs, _) :: rest, fin => total rest fin + 1 + qs.length

def regionB (l : List Oper) (sched : List (List Nat × Nat)) (fin : List Nat) : Bool :=
  Region.noSelect l.toArray && total sched fin == l.toArray.size && mixB l.toArray sched fin (Array.replicate l.toArray.size false)

/-- the worlds of a class, as a type of their own. -/
structure Later (C : World → Prop) where
  w : World
  ok : C w

section
variable {P : Program} {l : List Oper} {Q : Exit → Act → World → Prop} {C : World → Prop}

/-- in segments: what yields the same in every world that goes on from the segment's own (below its heap's size all is as it was), then one operation that is forced. -/
def wpMix (P : Program) (l : List Oper) (Q : Exit → Act → World → Prop) : List (List Nat × Nat) → List Nat → Act → World → Prop
  | [], fin, a, w => wpQuiet P l.toArray (fun w' => ∃ x : Later (RowKit.Below w.heap.size w), w' = x.w) (fun a' => Q .normal a' w) (pickOps l fin) a
  | (qs, i) :: rest, fin, a, w => wpQuiet P l.toArray (fun w' => ∃ x : Later (RowKit.Below w.heap.size w), w' = x.w)
      (fun a' => wpList P l.toArray (Exit.then (fun a'' w'' => RowKit.Below w.heap.size w w'' ∧ wpMix P l Q rest fin a'' w'') Q) (pickOps l [i]) a' w) (pickOps l qs) a

theorem wpAnyH_weak {S S' : World → Prop} {ops : Array Oper} (h : ∀ w, S' w → S w) : ∀ (fuel : Nat) (listed : Array Bool) (a : Act) (w : World), wpAnyH P .any ops Q S' fuel listed a w → wpAnyH P .any ops Q S fuel listed a w
  | 0, _, _, _, hh => hh
  | fuel + 1, _, _, _, hh => ⟨hh.1, fun i hi => wpOp_mono (fun a' w' h' => ⟨h w' h'.1, wpAnyH_weak h fuel _ a' w' h'.2⟩) (hh.2 i hi)⟩

theorem quiets_take (hs : Region.noSelect l.toArray = true) (hQ : ∀ c a d v w, Q (.panic c) (Act.put a d v) w → Q (.panic c) a w) {w : World} (hC : C w) (fuel : Nat) : ∀ (is : List Nat) (listed : Array Bool) (a : Act),
    quietsB l.toArray is listed = true → wpQuiet P l.toArray (fun w' => ∃ x : Later C, w' = x.w) (fun a' => wpAnyH P .any l.toArray Q C fuel (marks listed is) a' w) (pickOps l is) a →
    wpAnyH P .any l.toArray Q C (fuel + is.length) listed a w
  | [], listed, a, _, h => h
  | i :: is, listed, a, hB, h => by
    simp only [quietsB, Bool.and_eq_true] at hB
    obtain ⟨⟨⟨h1, h2⟩, h3⟩, h4⟩ := hB
    have hi : l.toArray[i]? = nth l i := by rw [nth_eq]; simp
    cases ho : nth l i with
    | none => rw [hi, ho] at h3; simp at h3
    | some o =>
      rw [hi, ho] at h3
      rw [ho] at hi
      simp only [pickOps, ho, wpQuiet] at h
      show wpAnyH P .any l.toArray Q C ((fuel + is.length) + 1) listed a w
      split at h
      · rename_i hw
        obtain ⟨v, hv, hn⟩ := h
        refine wpAnyH_take hi hs h2 h1 (fun c a w => hQ c a o.dst v w) (v := v) (.inl ⟨hw, fun w' hw' => ?_⟩) hC (quiets_take hs hQ hC fuel is _ _ h4 hn)
        have h5 := hv w' ⟨⟨w', hw'⟩, rfl⟩
        have h6 := pureOp_value (P := P) h3 a.eval w'
        unfold Oper.quietAt at h5
        generalize (execOp a.eval o).run P w' = r at h5 h6
        cases r with
        | halt x w'' => exact h5.elim
        | ok n w'' =>
          cases n with
          | value u =>
            simp only [Oper.quietUpon] at h5
            obtain ⟨rfl, rfl⟩ := h5
            rfl
          | _ => exact h6.elim
      · rename_i hw
        exact wpAnyH_take hi hs h2 h1 (fun c a w => hQ c a o.dst undef w) (v := undef) (.inr ⟨by simpa using hw, rfl⟩) hC (quiets_take hs hQ hC fuel is _ _ h4 h)

theorem wpQuiet_mono {ops : Array Oper} {C : World → Prop} {Q Q' : Act → Prop} (h : ∀ a, Q a → Q' a) : ∀ (l : List Oper) (a : Act), wpQuiet P ops C Q l a → wpQuiet P ops C Q' l a
  | [], a, hh => h a hh
  | o :: l, a, hh => by
    unfold wpQuiet at *
    split
    · rename_i hw
      simp only [hw, if_true] at hh
      exact Oper.quiet_mono (fun a' => wpQuiet_mono h l a') hh
    · rename_i hw
      simp only [hw] at hh
      exact wpQuiet_mono h l _ hh

theorem wp_then {o : Oper} {a : Act} {w : World} {K N : Act → World → Prop} (h : o.wp P a w K (Exit.then N Q)) : o.wp P a w K Q := by
  unfold Oper.wp at *
  generalize (execOp a.eval o).run P w = r at *
  cases r with
  | ok n w' => cases n <;> simp only [Oper.upon] at h ⊢ <;> first | exact h | exact Calls.mono h (fun e w'' he => by cases e <;> exact he)
  | halt x w' => cases x <;> simp only [Oper.upon] at h ⊢ <;> exact h

theorem mix_any (hs : Region.noSelect l.toArray = true) (hQ : ∀ c a d v w, Q (.panic c) (Act.put a d v) w → Q (.panic c) a w) : ∀ (sched : List (List Nat × Nat)) (fin : List Nat) (listed : Array Bool) (a : Act) (w : World),
    mixB l.toArray sched fin listed = true → wpMix P l Q sched fin a w → wpAnyH P .any l.toArray Q (RowKit.Below w.heap.size w) (total sched fin) listed a w
  | [], fin, listed, a, w, hB, h => by
    simp only [mixB, Bool.and_eq_true, List.isEmpty_iff] at hB
    have := quiets_take hs hQ (C := RowKit.Below w.heap.size w) (RowKit.Below.refl _ _) 0 fin listed a hB.1 (by
      refine cast ?_ h
      unfold wpMix
      congr 1
      funext a'
      exact propext ⟨fun h => wpAnyH_done hB.2 h 0, fun h => h.2⟩)
    simpa [total] using this
  | (qs, i) :: rest, fin, listed, a, w, hB, h => by
    simp only [mixB, Bool.and_eq_true, beq_iff_eq] at hB
    obtain ⟨⟨h1, h2⟩, h3⟩ := hB
    unfold wpMix at h
    refine quiets_take hs hQ (RowKit.Below.refl _ _) (total rest fin + 1) qs listed a h1 ?_
    refine wpQuiet_mono (fun a' h' => ?_) _ _ h
    refine wpAnyH_all h2 (by simp) fun j hj => ?_
    obtain rfl : j = i := by simpa using hj
    have hi : l.toArray[j]? = nth l j := by rw [nth_eq]; simp
    unfold wpOp
    rw [hi]
    have next : ∀ a'' w'', RowKit.Below w.heap.size w w'' ∧ wpMix P l Q rest fin a'' w'' → RowKit.Below w.heap.size w w'' ∧ wpAnyH P .any l.toArray Q (RowKit.Below w.heap.size w) (total rest fin) ((marks listed qs).setIfInBounds j true) a'' w'' := fun a'' w'' h'' =>
      ⟨h''.1, wpAnyH_weak (fun w' hw' => h''.1.trans (hw'.mono h''.1.size)) _ _ _ _ (mix_any hs hQ rest fin _ a'' w'' h3 h''.2)⟩
    cases ho : nth l j with
    | none =>
      rw [ho] at hi
      have : j ∈ Region.ready .any l.toArray (marks listed qs) := by rw [h2]; simp
      obtain ⟨_, o, hoo, _⟩ := mem_ready.1 this
      rw [hi] at hoo
      cases hoo
    | some o =>
      simp only [pickOps, ho, wpList] at h'
      simp only
      split
      · rename_i hw
        simp only [hw, if_true] at h'
        rcases h' with h' | h'
        · exact .inl (Oper.wp_mono next (wp_then h'))
        · exact .inr h'
      · rename_i hw
        simp only [hw] at h'
        exact next _ _ h'

/-- THE LAW. -/
theorem wp_region_mix {id : Nat} {a : Act} {w : World} (sched : List (List Nat × Nat)) (fin : List Nat) (hm : P.follows .mixedOrders = true) (hB : regionB l sched fin = true)
    (hQ : ∀ c a d v w, Q (.panic c) (Act.put a d v) w → Q (.panic c) a w) (h : wpMix P l Q sched fin a w.drew) : (Code.region id l.toArray true).wp P Q a w := by
  simp only [regionB, Bool.and_eq_true, beq_iff_eq] at hB
  obtain ⟨⟨h1, h2⟩, h3⟩ := hB
  refine wp_region_held (S := RowKit.Below w.drew.heap.size w.drew) hm ?_
  rw [← h2] at h3 ⊢
  exact mix_any h1 hQ sched fin _ a _ h3 h

end

theorem wp_region_mix' {P : Program} {l : List Oper} {Q : Exit → Act → World → Prop} {id : Nat} {a : Act} {w : World} (sched : List (List Nat × Nat)) (fin : List Nat) (hm : P.follows .mixedOrders = true) (hB : regionB l sched fin = true)
    (hQ : ∀ c a d v w, Q (.panic c) (Act.put a d v) w → Q (.panic c) a w) (h : ∀ wd, RowKit.Below w.heap.size w wd → wpMix P l Q sched fin a wd) : (Code.region id l.toArray true).wp P Q a w :=
  wp_region_mix sched fin hm hB hQ (h _ (RowKit.Below.refl _ _).drew)

theorem mix_step {P : Program} {l : List Oper} {Q : Exit → Act → World → Prop} {a : Act} {w : World} {qs : List Nat} {i : Nat} {rest : List (List Nat × Nat)} {fin : List Nat}
    (h : wpQuiet P l.toArray (fun w' => ∃ x : Later (RowKit.Below w.heap.size w), w' = x.w) (fun a' => wpList P l.toArray (Exit.then (fun a'' w'' => RowKit.Below w.heap.size w w'' ∧ wpMix P l Q rest fin a'' w'') Q) (pickOps l [i]) a' w) (pickOps l qs) a) : wpMix P l Q ((qs, i) :: rest) fin a w := h
theorem mix_end {P : Program} {l : List Oper} {Q : Exit → Act → World → Prop} {a : Act} {w : World} {fin : List Nat}
    (h : wpQuiet P l.toArray (fun w' => ∃ x : Later (RowKit.Below w.heap.size w), w' = x.w) (fun a' => Q .normal a' w) (pickOps l fin) a) : wpMix P l Q [] fin a w := h

instance later_ne (B : Nat) (w : World) : Nonempty (Later (RowKit.Below B w)) := ⟨⟨w, RowKit.Below.refl _ _⟩⟩
theorem later_cell {B : Nat} {w : World} {p : Addr} {v : Value} (hp : p.block < B) (h : w.cell? p = some v) (x : Later (RowKit.Below B w)) : x.w.cell? p = some v := (x.ok.cell hp).trans h

end Go.Proofs.Ytfnibpkojhgflaa
