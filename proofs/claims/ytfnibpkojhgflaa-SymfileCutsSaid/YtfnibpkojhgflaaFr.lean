/- Walking with the slots that are known alone: a frame is any that holds them; code is named by its place; a goal stays small. Over whatever program. -/
import Derived.Test.YtfnibpkojhgflaaLibA
import Derived.OrdersHeld
import Derived.BigQuiet
import Derived.Below
import Derived.Scope
namespace Go.Proofs.Ytfnibpkojhgflaa
set_option linter.unusedVariables false
set_option linter.unusedSimpArgs false
open Go.RowKit

abbrev Slots := List (Nat × Value)
def look : Slots → Nat → Option Value
  | [], _ => none
  | (t, v) :: l, n => bif Nat.beq t n then some v else look l n
def evL (l : Slots) : Operand → Value
  | .tmp t => (look l t).getD undef
  | .const v => v
  | .global g => .pointer (some ⟨g, 0, none⟩)
  | .func f => .func (.func f) #[] #[]
def knows (l : Slots) : Operand → Bool
  | .tmp t => (look l t).isSome
  | _ => true

/-- a frame that holds these. -/
structure Fr (n : Nat) (l : Slots) (a : Act) : Prop where
  df : a.defers = []
  sz : a.tmps.size = n
  get : ∀ t v, look l t = some v → a.tmps[t]? = some v

variable {P : Program} {B : Code} {n : Nat} {Q : Exit → Act → World → Prop} {p : List Nat} {l : Slots} {w : World} {a : Act}

theorem Fr.eval (h : Fr n l a) {x : Operand} (k : knows l x = true) : a.eval x = evL l x := by
  cases x with
  | tmp t =>
    unfold knows at k
    obtain ⟨v, hv⟩ := Option.isSome_iff_exists.1 k
    unfold Act.eval evL
    simp [h.get t v hv, hv]
  | _ => rfl
def putL (d : Option Nat) (v : Value) (l : Slots) : Slots := match d with | some d => (d, v) :: l | none => l
def fits (n : Nat) : Option Nat → Bool
  | some d => Nat.blt d n
  | none => true
theorem Fr.put (h : Fr n l a) {d : Option Nat} (hd : fits n d = true) (v : Value) : Fr n (putL d v l) (a.put d v) := by
  cases d with
  | none => exact h
  | some d =>
    have hd : d < n := by unfold fits at hd; simpa [Nat.blt_eq] using hd
    refine ⟨h.df, by simp [Act.put, h.sz], fun t u hu => ?_⟩
    simp only [putL, look] at hu
    simp only [Act.put]
    by_cases e : d = t
    · subst e
      rw [show Nat.beq d d = true by simp] at hu
      simp only [cond_true, Option.some.injEq] at hu
      subst hu
      rw [Array.getElem?_setIfInBounds_self_of_lt (by rw [h.sz]; exact hd)]
    · have : Nat.beq d t = false := by
        cases hb : Nat.beq d t with
        | false => rfl
        | true => exact absurd (Nat.eq_of_beq_eq_true hb) e
      rw [this] at hu
      rw [Array.getElem?_setIfInBounds_ne e]
      exact h.get t u hu
theorem Fr.sub {l' : Slots} (h : Fr n l a) (hs : ∀ t v, look l' t = some v → look l t = some v) : Fr n l' a := ⟨h.df, h.sz, fun t v hv => h.get t v (hs t v hv)⟩
/-- these slots alone. -/
def keepO (l : Slots) : List Nat → Option Slots
  | [] => some []
  | t :: ts => match look l t, keepO l ts with
    | some v, some r => some ((t, v) :: r)
    | _, _ => none
theorem keep_look {l l' : Slots} {ts : List Nat} (h : keepO l ts = some l') : ∀ t v, look l' t = some v → look l t = some v := by
  induction ts generalizing l' with
  | nil => simp only [keepO, Option.some.injEq] at h; subst h; intro t v hv; cases hv
  | cons t ts ih =>
    unfold keepO at h
    split at h
    · rename_i v r hv hr
      simp only [Option.some.injEq] at h
      subst h
      intro u x hx
      simp only [look] at hx
      cases hb : Nat.beq t u with
      | false => rw [hb] at hx; exact ih hr u x hx
      | true =>
        rw [hb] at hx
        obtain rfl := Nat.eq_of_beq_eq_true hb
        simp only [cond_true, Option.some.injEq] at hx
        subst hx; exact hv
    · cases h

/-! ### code by its place -/
def child : Code → Nat → Code
  | .seq x _, 0 => x
  | .seq _ y, _ => y
  | .cond _ x _, 0 => x
  | .cond _ _ y, _ => y
  | .block _ x, _ => x
  | .loop x, _ => x
  | .scope x, _ => x
  | _, _ => .skip
def sub (B : Code) : List Nat → Code
  | [] => B
  | i :: p => child (sub B p) i
def Func.code (f : Func) : Code := f.body.getD .skip
def isSeq : Code → Bool | .seq .. => true | _ => false
def isBlock : Code → Option Nat | .block i _ => some i | _ => none
def isLoop : Code → Bool | .loop _ => true | _ => false
def isScope : Code → Bool | .scope _ => true | _ => false
def isSkip : Code → Bool | .skip => true | .label _ => true | _ => false
def isRet : Code → Bool | .ret => true | _ => false
def isExit : Code → Option Nat | .exit i => some i | _ => none
def isCond : Code → Option Operand | .cond c _ _ => some c | _ => none
def isReg : Code → Option Bool | .region _ _ d => some d | _ => none
def opsL (B : Code) (p : List Nat) : List Oper := match sub B p with | .region _ ops _ => ops.toList | _ => []

def SC (P : Program) (B : Code) (n : Nat) (Q : Exit → Act → World → Prop) (p : List Nat) (l : Slots) (w : World) : Prop := ∀ a, Fr n l a → (sub B p).wp P Q a w
def SQ (n : Nat) (Q : Exit → Act → World → Prop) (e : Exit) (l : Slots) (w : World) : Prop := ∀ a, Fr n l a → Q e a w
def SL (P : Program) (B : Code) (n : Nat) (Q : Exit → Act → World → Prop) (p : List Nat) (is : List Nat) (l : Slots) (w : World) : Prop :=
  ∀ a, Fr n l a → wpList P (opsL B p).toArray Q (pickOps (opsL B p) is) a w
/-- what comes behind. -/
def Qs (P : Program) (B : Code) (p : List Nat) (Q : Exit → Act → World → Prop) : Exit → Act → World → Prop := Exit.then (fun a w => (sub B p).wp P Q a w) Q

theorem SC.seq (h : isSeq (sub B p) = true) (k : SC P B n (Qs P B (1 :: p) Q) (0 :: p) l w) : SC P B n Q p l w := by
  intro a ha
  have k := k a ha
  unfold sub at k
  cases hc : sub B p with
  | seq x y =>
    rw [hc] at k
    refine wp_seq ?_
    have e : Qs P B (1 :: p) Q = Exit.then (y.wp P Q) Q := by unfold Qs sub; rw [hc]; rfl
    rw [e] at k
    exact k
  | _ => rw [hc] at h; cases h
theorem SC.next (k : SC P B n Q p l w) : SQ n (Qs P B p Q) .normal l w := k
theorem SC.skip (h : isSkip (sub B p) = true) (k : SQ n Q .normal l w) : SC P B n Q p l w := by
  intro a ha
  cases hc : sub B p with
  | skip => exact wp_skip (k a ha)
  | label => exact wp_label (k a ha)
  | _ => rw [hc] at h; cases h
theorem SC.ret (h : isRet (sub B p) = true) (k : SQ n Q .ret l w) : SC P B n Q p l w := by
  intro a ha
  cases hc : sub B p with
  | ret => exact wp_ret (k a ha)
  | _ => rw [hc] at h; cases h
theorem SC.exit {i : Nat} (h : isExit (sub B p) = some i) (k : SQ n Q (.exit i) l w) : SC P B n Q p l w := by
  intro a ha
  cases hc : sub B p with
  | exit j => rw [hc] at h; simp only [isExit, Option.some.injEq] at h; subst h; exact wp_exit (k a ha)
  | _ => rw [hc] at h; cases h
theorem SC.block {i : Nat} (h : isBlock (sub B p) = some i) (k : SC P B n (Exit.inBlock i Q) (0 :: p) l w) : SC P B n Q p l w := by
  intro a ha
  have k := k a ha
  unfold sub at k
  cases hc : sub B p with
  | block j x => rw [hc] at h k; simp only [isBlock, Option.some.injEq] at h; subst h; exact wp_block k
  | _ => rw [hc] at h; cases h
theorem SC.scope (h : isScope (sub B p) = true) (k : SC P B n (Exit.noGoto Q) (0 :: p) l w) : SC P B n Q p l w := by
  intro a ha
  have k := k a ha
  unfold sub at k
  cases hc : sub B p with
  | scope x => rw [hc] at k; exact wp_scope_straight k
  | _ => rw [hc] at h; cases h
/-- how a way out is passed on. -/
theorem SQ.seqExit {e : Exit} (he : e ≠ .normal) (k : SQ n Q e l w) : SQ n (Qs P B p Q) e l w := by
  intro a ha; have k := k a ha
  cases e <;> first | exact k | exact absurd rfl he
theorem SQ.thenExit {N : Act → World → Prop} {e : Exit} (he : e ≠ .normal) (k : SQ n Q e l w) : SQ n (Exit.then N Q) e l w := by
  intro a ha; have k := k a ha
  cases e <;> first | exact k | exact absurd rfl he
theorem SQ.blockNormal {i : Nat} (k : SQ n Q .normal l w) : SQ n (Exit.inBlock i Q) .normal l w := fun a ha => k a ha
theorem SQ.blockRet {i : Nat} (k : SQ n Q .ret l w) : SQ n (Exit.inBlock i Q) .ret l w := fun a ha => k a ha
theorem SQ.blockHere {i : Nat} (k : SQ n Q .normal l w) : SQ n (Exit.inBlock i Q) (.exit i) l w := fun a ha => by
  show (if i = i then Q .normal a w else Q (.exit i) a w)
  rw [if_pos rfl]; exact k a ha
theorem SQ.blockOther {i j : Nat} (h : Nat.beq j i = false) (k : SQ n Q (.exit j) l w) : SQ n (Exit.inBlock i Q) (.exit j) l w := fun a ha => by
  show (if j = i then Q .normal a w else Q (.exit j) a w)
  rw [if_neg (by rintro rfl; simp at h)]; exact k a ha
theorem SQ.scopeNormal (k : SQ n Q .normal l w) : SQ n (Exit.noGoto Q) .normal l w := fun a ha => k a ha
theorem SQ.scopeRet (k : SQ n Q .ret l w) : SQ n (Exit.noGoto Q) .ret l w := fun a ha => k a ha
theorem SQ.scopeExit {i : Nat} (k : SQ n Q (.exit i) l w) : SQ n (Exit.noGoto Q) (.exit i) l w := fun a ha => k a ha

/-- these slots alone are known from here on. -/
theorem SC.keep {l' : Slots} (ts : List Nat) (h : keepO l ts = some l') (k : SC P B n Q p l' w) : SC P B n Q p l w := fun a ha => k a (ha.sub (keep_look h))
theorem SQ.keep {e : Exit} {l' : Slots} (ts : List Nat) (h : keepO l ts = some l') (k : SQ n Q e l' w) : SQ n Q e l w := fun a ha => k a (ha.sub (keep_look h))
theorem SL.keep {is : List Nat} {l' : Slots} (ts : List Nat) (h : keepO l ts = some l') (k : SL P B n Q p is l' w) : SL P B n Q p is l w := fun a ha => k a (ha.sub (keep_look h))

/-! ### ways that part -/
def condL (l : Slots) (c : Code) : Option Value := match isCond c with | some x => bif knows l x then some (evL l x) else none | none => none
theorem SC.cond {b : Bool} (h : condL l (sub B p) = some (.bool b)) (ht : b = true → SC P B n Q (0 :: p) l w) (hf : b = false → SC P B n Q (1 :: p) l w) : SC P B n Q p l w := by
  intro a ha
  unfold condL at h
  cases hc : sub B p with
  | cond c x y =>
    rw [hc] at h
    simp only [isCond] at h
    cases hk : knows l c with
    | false => rw [hk] at h; cases h
    | true =>
      rw [hk] at h
      simp only [cond_true, Option.some.injEq] at h
      have hv : a.eval c = .bool b := (ha.eval hk).trans h
      cases b with
      | true => have := ht rfl a ha; unfold sub at this; rw [hc] at this; exact wp_cond_true hv this
      | false => have := hf rfl a ha; unfold sub at this; rw [hc] at this; exact wp_cond_false hv this
  | _ => rw [hc] at h; cases h
theorem SC.yes (h : condL l (sub B p) = some (.bool true)) (k : SC P B n Q (0 :: p) l w) : SC P B n Q p l w := SC.cond h (fun _ => k) (fun e => by cases e)
theorem SC.no (h : condL l (sub B p) = some (.bool false)) (k : SC P B n Q (1 :: p) l w) : SC P B n Q p l w := SC.cond h (fun e => by cases e) (fun _ => k)

/-! ### loops -/
theorem least_of {T : Nat → Prop} (h : ∃ m, T m) : ∃ m, T m ∧ ∀ k, T k → m ≤ k := by
  obtain ⟨m, hm⟩ := h
  induction m using Nat.strongRecOn with
  | _ m ih =>
    by_cases hh : ∃ k, k < m ∧ T k
    · obtain ⟨k, hk, hT⟩ := hh; exact ih k hk hT
    · exact ⟨m, hm, fun k hk => Nat.le_of_not_lt (fun hlt => hh ⟨k, hlt, hk⟩)⟩
theorem SC.loop {X : Type} (S : X → Slots) (I : X → World → Prop) (μ : X → Nat) (hl : isLoop (sub B p) = true) (x0 : X) (h0 : keepO l ((S x0).map Prod.fst) = some (S x0)) (hI : I x0 w)
    (round : ∀ (x : X) (w : World), I x w → SC P B n (Exit.then (fun a' w' => ∃ x', Fr n (S x') a' ∧ I x' w' ∧ μ x' < μ x) Q) (0 :: p) (S x) w) : SC P B n Q p l w := by
  intro a ha
  cases hc : sub B p with
  | loop c =>
    classical
    let J : Act → World → Prop := fun a w => ∃ x, Fr n (S x) a ∧ I x w
    let T : Act → World → Nat → Prop := fun a w m => ∃ x, Fr n (S x) a ∧ I x w ∧ μ x = m
    let least : Act → World → Nat := fun a w => if h : ∃ m, T a w m then Classical.choose (least_of h) else 0
    have hleast : ∀ a w, (∃ m, T a w m) → T a w (least a w) ∧ ∀ k, T a w k → least a w ≤ k := fun a w h => by
      show T a w (dite _ _ _) ∧ ∀ k, T a w k → (dite _ _ _) ≤ k
      rw [dif_pos h]
      exact Classical.choose_spec (least_of h)
    refine wp_loop J least ⟨x0, ha.sub (keep_look h0), hI⟩ ?_
    rintro a w ⟨x, hx, hw⟩
    obtain ⟨⟨y, hy1, hy2, hy3⟩, _⟩ := hleast a w ⟨μ x, x, hx, hw, rfl⟩
    have := round y w hy2 a hy1
    unfold sub at this
    rw [hc] at this
    refine Code.wp_mono (fun e a' w' q => ?_) this
    cases e with
    | normal =>
      obtain ⟨x', h1, h2, h3⟩ := q
      refine ⟨⟨x', h1, h2⟩, ?_⟩
      have := (hleast a' w' ⟨μ x', x', h1, h2, rfl⟩).2 (μ x') ⟨x', h1, h2, rfl⟩
      omega
    | _ => exact q
  | _ => rw [hc] at hl; cases hl
theorem SQ.again {X : Type} {S : X → Slots} {I : X → World → Prop} {μ : X → Nat} {x : X} (x' : X) (h : keepO l ((S x').map Prod.fst) = some (S x')) (hI : I x' w) (hμ : μ x' < μ x) :
    SQ n (Exit.then (fun a' w' => ∃ x', Fr n (S x') a' ∧ I x' w' ∧ μ x' < μ x) Q) .normal l w := fun a ha => ⟨x', ha.sub (keep_look h), hI, hμ⟩

/-! ### regions, in their own order -/
theorem pick_range (L : List Oper) : ∀ (k : Nat), pickOps L (List.range' k (L.length - k)) = L.drop k := by
  intro k
  induction hm : L.length - k generalizing k with
  | zero => rw [List.drop_eq_nil_of_le (by omega)]; rfl
  | succ m ih =>
    have hk : k < L.length := by omega
    rw [List.range'_succ, List.drop_eq_getElem_cons hk]
    have := ih (k + 1) (by omega)
    simp only [pickOps, nth_eq, List.getElem?_eq_getElem hk]
    rw [this]
theorem SC.region (is : List Nat) (h : isReg (sub B p) = some false) (hi : List.range (opsL B p).length = is) (k : SL P B n Q p is l w) : SC P B n Q p l w := by
  intro a ha
  have k := k a ha
  unfold opsL at hi k
  cases hc : sub B p with
  | region id ops d =>
    rw [hc] at h hi k
    simp only [isReg, Option.some.injEq] at h
    subst h
    simp only [Array.toArray_toList] at k
    refine wp_region_list ?_
    have e := pick_range ops.toList 0
    rw [Nat.sub_zero, ← List.range_eq_range', List.drop_zero] at e
    rw [← hi, e] at k
    exact k
  | _ => rw [hc] at h; cases h
theorem SL.nil (k : SQ n Q .normal l w) : SL P B n Q p [] l w := fun a ha => k a ha

def yieldL (ops : List Oper) (l : Slots) (j : Nat) : Option (Option Bool) :=
  match nth ops j with
  | some o => match o.dst with
    | some d => match look l d with
      | some (.bool b) => some (some b)
      | some _ => some none
      | none => none
    | none => some none
  | none => some none
def wantL (ops : List Oper) (l : Slots) (o : Oper) : Option Bool := match o.guard with
  | none => some true
  | some (j, b) => match yieldL ops l j with
    | some y => some (y == some b)
    | none => none
theorem want_of {ops : List Oper} {o : Oper} {b : Bool} (ha : Fr n l a) (h : wantL ops l o = some b) : Region.wanted o (yielded ops.toArray a.tmps) = b := by
  unfold wantL at h
  unfold Region.wanted
  cases hg : o.guard with
  | none => rw [hg] at h; simpa using h
  | some jb =>
    obtain ⟨j, c⟩ := jb
    rw [hg] at h
    simp only at h ⊢
    have hy : ∀ y, yieldL ops l j = some y → yielded ops.toArray a.tmps j = y := by
      intro y hy
      unfold yieldL at hy
      unfold yielded
      have e : ops.toArray[j]? = nth ops j := by rw [nth_eq]; simp
      rw [e]
      cases hn : nth ops j with
      | none => rw [hn] at hy; simpa using hy
      | some o' =>
        rw [hn] at hy
        simp only at hy
        cases hd : o'.dst with
        | none => rw [hd] at hy; simpa [hd] using hy
        | some d =>
          rw [hd] at hy
          simp only at hy
          cases hl : look l d with
          | none => rw [hl] at hy; cases hy
          | some v =>
            rw [hl] at hy
            have := ha.get d v hl
            cases v <;> simp_all
    cases hyy : yieldL ops l j with
    | none => rw [hyy] at h; cases h
    | some y =>
      rw [hyy] at h
      simp only [Option.some.injEq] at h
      rw [hy y hyy]; exact h
def notSel : Op → Bool | .select .. => false | _ => true
theorem notSel_of {o : Op} (h : notSel o = true) : ∀ cs b, o ≠ .select cs b := by rintro cs b rfl; cases h
/-- the operation that comes, if its guard lets it through and all that it looks at is known. -/
def opAt (B : Code) (n : Nat) (p : List Nat) (l : Slots) (i : Nat) : Option Oper :=
  match nth (opsL B p) i with
  | some o => match wantL (opsL B p) l o with
    | some true => bif fits n o.dst && notSel o.op then some o else none
    | _ => none
  | none => none
theorem opAt_of {i : Nat} {o : Oper} (h : opAt B n p l i = some o) : nth (opsL B p) i = some o ∧ wantL (opsL B p) l o = some true ∧ fits n o.dst = true ∧ notSel o.op = true := by
  unfold opAt at h
  split at h
  · rename_i o' ho
    split at h
    · rename_i hw
      cases hb : (fits n o'.dst && notSel o'.op) with
      | false => rw [hb] at h; cases h
      | true =>
        rw [hb] at h
        simp only [cond_true, Option.some.injEq] at h
        subst h
        rw [Bool.and_eq_true] at hb
        exact ⟨ho, hw, hb⟩
    · cases h
  · cases h
/-- THE LAW: one operation, by whatever is known of it. -/
theorem SL.op {i : Nat} {is : List Nat} {o : Oper} (h : opAt B n p l i = some o)
    (k : ∀ a, Fr n l a → o.wp P a w (fun a' w' => wpList P (opsL B p).toArray Q (pickOps (opsL B p) is) a' w') Q) : SL P B n Q p (i :: is) l w := by
  intro a ha
  obtain ⟨h1, h2, h3, h4⟩ := opAt_of h
  simp only [pickOps, h1]
  unfold wpList
  rw [want_of ha h2, if_pos rfl]
  exact .inl (k a ha)
/-- one that its guard passes over. -/
def offAt (B : Code) (n : Nat) (p : List Nat) (l : Slots) (i : Nat) : Option (Option Nat) :=
  match nth (opsL B p) i with
  | some o => match wantL (opsL B p) l o with
    | some false => bif fits n o.dst then some o.dst else none
    | _ => none
  | none => none
theorem SL.off {i : Nat} {is : List Nat} {d : Option Nat} (h : offAt B n p l i = some d) (k : SL P B n Q p is (putL d undef l) w) : SL P B n Q p (i :: is) l w := by
  intro a ha
  unfold offAt at h
  split at h
  · rename_i o ho
    split at h
    · rename_i hw
      cases hb : fits n o.dst with
      | false => rw [hb] at h; cases h
      | true =>
        rw [hb] at h
        simp only [cond_true, Option.some.injEq] at h
        subst h
        simp only [pickOps, ho]
        unfold wpList
        rw [want_of ha hw, if_neg (by simp)]
        exact k _ (ha.put hb undef)
    · cases h
  · cases h
theorem SL.off' {i : Nat} {is : List Nat} {d : Nat} (h : offAt B n p l i = some (some d)) (k : SL P B n Q p is ((d, undef) :: l) w) : SL P B n Q p (i :: is) l w := SL.off h k
end Go.Proofs.Ytfnibpkojhgflaa
