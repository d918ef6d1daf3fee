/- What the printed walks use: loops and joints with what comes behind as a variable; tests; places. Over whatever program. -/
import Derived.Test.YtfnibpkojhgflaaFrMix
import Derived.IntWalk
namespace Go.Proofs.Ytfnibpkojhgflaa
set_option linter.unusedVariables false
set_option linter.unusedSimpArgs false
open Go.RowKit

variable {P : Program} {B : Code} {n : Nat} {Q : Exit → Act → World → Prop} {p : List Nat} {l : Slots} {w0 : Base} {w w' : World} {i : Nat} {is qs : List Nat} {L : List Res} {K : Act → Prop} {C : World → Prop}

/-- a panic does not ask what was written last. -/
def PanOk (Q : Exit → Act → World → Prop) : Prop := ∀ c a d v w, Q (.panic c) (Act.put a d v) w → Q (.panic c) a w
theorem PanOk.body {fn : Func} {R : Ending → World → Prop} : PanOk (bodyPost P fn R) := fun c a d v w h => by cases d <;> exact h
theorem PanOk.seq (h : PanOk Q) : PanOk (Qs P B p Q) := fun c a d v w k => h c a d v w k
theorem PanOk.then {N : Act → World → Prop} (h : PanOk Q) : PanOk (Exit.then N Q) := fun c a d v w k => h c a d v w k
theorem PanOk.block {j : Nat} (h : PanOk Q) : PanOk (Exit.inBlock j Q) := fun c a d v w k => h c a d v w k
theorem PanOk.scope (h : PanOk Q) : PanOk (Exit.noGoto Q) := fun c a d v w k => h c a d v w k

/-- a loop; what comes behind is a variable. -/
theorem SC.loopA {X : Type} (S : X → Slots) (I : X → World → Prop) (μ : X → Nat) (hp : PanOk Q) (hl : isLoop (sub B p) = true) (x0 : X) (h0 : keepO l ((S x0).map Prod.fst) = some (S x0)) (hI : I x0 w)
    (round : ∀ (x : X) (w : World), I x w → ∀ Q' : Exit → Act → World → Prop, (∀ (x' : X) {l' : Slots} {w' : World}, keepO l' ((S x').map Prod.fst) = some (S x') → I x' w' → μ x' < μ x → SQ n Q' .normal l' w') →
      (∀ {e : Exit} {l' : Slots} {w' : World}, e ≠ .normal → SQ n Q e l' w' → SQ n Q' e l' w') → PanOk Q' → SC P B n Q' (0 :: p) (S x) w) : SC P B n Q p l w := by
  refine SC.loop S I μ hl x0 h0 hI fun x w hx => ?_
  exact round x w hx _ (fun x' {_ _} h1 h2 h3 => SQ.again x' h1 h2 h3) (fun {_ _ _} he k => SQ.thenExit he k) hp.then
/-- two pieces, with a joint between. -/
theorem SC.seqJ {X : Type} (S : X → Slots) (I : X → World → Prop) (hp : PanOk Q) (h : isSeq (sub B p) = true) (rest : ∀ (x : X) (w : World), I x w → SC P B n Q (1 :: p) (S x) w)
    (first : ∀ Q' : Exit → Act → World → Prop, (∀ (x : X) {l' : Slots} {w' : World}, keepO l' ((S x).map Prod.fst) = some (S x) → I x w' → SQ n Q' .normal l' w') →
      (∀ {e : Exit} {l' : Slots} {w' : World}, e ≠ .normal → SQ n Q e l' w' → SQ n Q' e l' w') → PanOk Q' → SC P B n Q' (0 :: p) l w) : SC P B n Q p l w :=
  SC.seq h (first _ (fun x {_ _} h1 h2 => SC.next (fun a ha => rest x _ h2 a (ha.sub (keep_look h1)))) (fun {_ _ _} he k => SQ.seqExit he k) hp.seq)
/-- the same with the joint's own law ahead. -/
theorem SC.hideQ (hp : PanOk Q) (k : ∀ Q' : Exit → Act → World → Prop, (∀ {e : Exit} {l' : Slots} {w' : World}, SQ n Q e l' w' → SQ n Q' e l' w') → PanOk Q' → SC P B n Q' p l w) : SC P B n Q p l w := k Q (fun {_ _ _} h => h) hp

theorem SL.byRun {d : Nat} {v : Value} (h : ∃ o, opAt B n p l i = some o ∧ o.dst = some d ∧ ∀ a, Fr n l a → (execOp a.eval o).run P w = .ok (.value v) w') (k : SL P B n Q p is ((d, v) :: l) w') : SL P B n Q p (i :: is) l w := by
  obtain ⟨o, ho, hd, hr⟩ := h
  refine SL.op ho fun a ha => ?_
  unfold Oper.wp
  rw [hr a ha]
  have := k _ (ha.put (d := some d) (by rw [← hd]; exact (opAt_of ho).2.2.1) v)
  rw [← hd] at this
  exact this
theorem SU.byRun [hne : Nonempty (Later C)] {d : Nat} {v : Value} (h : ∀ y, C y → ∃ o, opAt B n p l i = some o ∧ o.dst = some d ∧ ∀ a, Fr n l a → (execOp a.eval o).run P y = .ok (.value v) y) (k : SU P B n C K p qs ((d, v) :: l)) : SU P B n C K p (i :: qs) l := by
  obtain ⟨y0, hy0⟩ := hne
  obtain ⟨o, ho, hd, _⟩ := h y0 hy0
  refine SU.op ho (v := v) (fun a ha y hy => ?_) (by rw [hd]; exact k)
  obtain ⟨o', ho', _, hr⟩ := h y hy
  rw [ho] at ho'
  obtain rfl := Option.some.inj ho'
  rw [hr a ha]
  exact ⟨rfl, rfl⟩

/-! ### tests -/
theorem SL.boolC {d : Nat} {x : Bool} (h : runAt P B n p l i w = some (some d, .ok (.value (.bool x)) w)) (ht : x = true → SL P B n Q p is ((d, .bool true) :: l) w) (hf : x = false → SL P B n Q p is ((d, .bool false) :: l) w) : SL P B n Q p (i :: is) l w := by
  cases hx : x with
  | true => exact SL.bool hx h (ht hx)
  | false => exact SL.bool hx h (hf hx)
theorem SU.boolC [hne : Nonempty (Later C)] {d : Nat} {x : Bool} (h : ∀ y, C y → runAt P B n p l i y = some (some d, .ok (.value (.bool x)) y)) (ht : x = true → SU P B n C K p qs ((d, .bool true) :: l)) (hf : x = false → SU P B n C K p qs ((d, .bool false) :: l)) : SU P B n C K p (i :: qs) l := by
  cases hx : x with
  | true => exact SU.bool hx h (ht hx)
  | false => exact SU.bool hx h (hf hx)
theorem str_beq (x y : ByteArray) : (x.toList == y.toList) = decide (x = y) := by
  rw [Bool.eq_iff_iff, beq_iff_eq, decide_eq_true_eq]
  constructor
  · intro h
    have e1 : ∀ z : ByteArray, z.toList = z.data.toList := fun z => ByteArray.toList_eq z
    rw [e1, e1] at h
    exact ByteArray.ext (Array.ext' h)
  · rintro rfl; rfl
theorem str_bne (x y : ByteArray) : (!(x.toList == y.toList)) = !decide (x = y) := by rw [str_beq]
theorem int_beq (x y : Int) : (x == y) = decide (x = y) := by rw [Bool.eq_iff_iff, beq_iff_eq, decide_eq_true_eq]
theorem int_bne (x y : Int) : (x != y) = !decide (x = y) := by rw [bne, int_beq]

/-! ### what its guard passes over, several at once; a choice -/
def offB (B : Code) (n : Nat) (p : List Nat) (l : Slots) : List Nat → Bool
  | [] => true
  | j :: js => (match offAt B n p l j with
    | some (some d) => (match look l d with | none => true | some _ => false)
    | some none => true
    | none => false) && offB B n p l js
theorem Fr.unput {a : Act} (ha : Fr n l a) {d : Nat} (hd : d < n) (hl : look l d = none) (v : Value) : Fr n l (a.put (some d) v) := by
  refine ⟨ha.df, by simp [Act.put, ha.sz], fun t u hu => ?_⟩
  have hne : d ≠ t := by rintro rfl; rw [hl] at hu; cases hu
  simp only [Act.put]
  rw [Array.getElem?_setIfInBounds_ne hne]
  exact ha.get t u hu
theorem off_fr {j : Nat} {o : Oper} {d : Option Nat} {a : Act} (ho : nth (opsL B p) j = some o) (h : offAt B n p l j = some d) (ha : Fr n l a) (hd : ∀ x, d = some x → look l x = none) : wantL (opsL B p) l o = some false ∧ Fr n l (a.put o.dst undef) := by
  unfold offAt at h
  rw [ho] at h
  simp only at h
  split at h
  · rename_i hw
    cases hb : fits n o.dst with
    | false => rw [hb] at h; cases h
    | true =>
      rw [hb] at h
      simp only [cond_true, Option.some.injEq] at h
      refine ⟨hw, ?_⟩
      cases hq : o.dst with
      | none => exact ha
      | some x =>
        rw [hq] at hb h
        exact ha.unput (by unfold fits at hb; simpa [Nat.blt_eq] using hb) (hd x h.symm) undef
  · cases h
theorem offB_one {j : Nat} {js : List Nat} (h : offB B n p l (j :: js) = true) : (∃ o d, nth (opsL B p) j = some o ∧ offAt B n p l j = some d ∧ ∀ x, d = some x → look l x = none) ∧ offB B n p l js = true := by
  unfold offB at h
  rw [Bool.and_eq_true] at h
  refine ⟨?_, h.2⟩
  have h1 := h.1
  cases ho : offAt B n p l j with
  | none => rw [ho] at h1; cases h1
  | some d =>
    have : ∃ o, nth (opsL B p) j = some o := by
      cases hn : nth (opsL B p) j with
      | none => unfold offAt at ho; rw [hn] at ho; cases ho
      | some o => exact ⟨o, rfl⟩
    obtain ⟨o, hn⟩ := this
    refine ⟨o, d, hn, rfl, fun x hx => ?_⟩
    subst hx
    rw [ho] at h1
    simp only at h1
    cases hl : look l x with
    | none => rfl
    | some v => rw [hl] at h1; cases h1
theorem SL.offs (js : List Nat) {is is' : List Nat} (e : js ++ is = is') (h : offB B n p l js = true) (k : SL P B n Q p is l w) : SL P B n Q p is' l w := by
  subst e
  induction js with
  | nil => exact k
  | cons j js ih =>
    obtain ⟨⟨o, d, ho, hd, hl⟩, h2⟩ := offB_one h
    intro a ha
    obtain ⟨hw, hf⟩ := off_fr ho hd ha hl
    show wpList P _ Q (pickOps (opsL B p) (j :: (js ++ is))) a w
    simp only [pickOps, ho]
    unfold wpList
    rw [want_of ha hw, if_neg (by simp)]
    exact ih h2 _ hf
theorem SU.offs (js : List Nat) {qs qs' : List Nat} (e : js ++ qs = qs') (h : offB B n p l js = true) (k : SU P B n C K p qs l) : SU P B n C K p qs' l := by
  subst e
  induction js with
  | nil => exact k
  | cons j js ih =>
    obtain ⟨⟨o, d, ho, hd, hl⟩, h2⟩ := offB_one h
    intro a ha
    obtain ⟨hw, hf⟩ := off_fr ho hd ha hl
    show wpQuiet P _ _ K (pickOps (opsL B p) (j :: (js ++ qs))) a
    simp only [pickOps, ho]
    unfold wpQuiet
    rw [want_of ha hw, if_neg (by simp)]
    exact ih h2 _ hf
def pkAt (B : Code) (n : Nat) (p : List Nat) (l : Slots) (i : Nat) : Option (Option Nat × Value) :=
  match opAt B n p l i with
  | some o => match o.op with
    | .pick c x y => bif knows l c then match evL l c with
      | .bool true => bif knows l x then some (o.dst, evL l x) else none
      | .bool false => bif knows l y then some (o.dst, evL l y) else none
      | _ => none else none
    | _ => none
  | none => none
theorem pkAt_run {d : Option Nat} {v : Value} (h : pkAt B n p l i = some (d, v)) (w : World) : ∃ o, opAt B n p l i = some o ∧ o.dst = d ∧ ∀ a, Fr n l a → (execOp a.eval o).run P w = .ok (.value v) w := by
  unfold pkAt at h
  cases ho : opAt B n p l i with
  | none => rw [ho] at h; cases h
  | some o =>
    rw [ho] at h
    simp only at h
    cases hop : o.op with
    | pick c x y =>
      rw [hop] at h
      simp only at h
      cases hk : knows l c with
      | false => rw [hk] at h; cases h
      | true =>
        rw [hk] at h
        simp only [cond_true] at h
        split at h
        · rename_i hc
          cases hx : knows l x with
          | false => rw [hx] at h; cases h
          | true =>
            rw [hx] at h
            simp only [cond_true, Option.some.injEq, Prod.mk.injEq] at h
            obtain ⟨hd, rfl⟩ := h
            refine ⟨o, rfl, hd, fun a ha => ?_⟩
            unfold execOp
            rw [hop]
            simp only [ha.eval hk, hc, ha.eval hx]
            rfl
        · rename_i hc
          cases hx : knows l y with
          | false => rw [hx] at h; cases h
          | true =>
            rw [hx] at h
            simp only [cond_true, Option.some.injEq, Prod.mk.injEq] at h
            obtain ⟨hd, rfl⟩ := h
            refine ⟨o, rfl, hd, fun a ha => ?_⟩
            unfold execOp
            rw [hop]
            simp only [ha.eval hk, hc, ha.eval hx]
            rfl
        · cases h
    | _ => rw [hop] at h; cases h
theorem SL.pick {d : Nat} {v : Value} (h : pkAt B n p l i = some (some d, v)) (k : SL P B n Q p is ((d, v) :: l) w) : SL P B n Q p (i :: is) l w := SL.byRun (pkAt_run h w) k
theorem SU.pick [hne : Nonempty (Later C)] {d : Nat} {v : Value} (h : pkAt B n p l i = some (some d, v)) (k : SU P B n C K p qs ((d, v) :: l)) : SU P B n C K p (i :: qs) l := SU.byRun (fun y _ => pkAt_run h y) k

/-! ### numbers -/
theorem wr64 {x r : Int} (h1 : -9223372036854775808 ≤ x) (h2 : x ≤ 9223372036854775807) (h : x = r) : IntKind.i64.wrap x = r := by
  subst h
  exact IntWalk.i64_in _ ⟨h1, h2⟩
theorem wr32 {x r : Int} (h1 : 0 ≤ x) (h2 : x ≤ 4294967295) (h : x = r) : IntKind.u32.wrap x = r := by
  subst h
  exact IntWalk.u32_in _ ⟨h1, h2⟩
theorem wr8 {x r : Int} (h1 : 0 ≤ x) (h2 : x ≤ 255) (h : x = r) : IntKind.u8.wrap x = r := by
  subst h
  exact IntWalk.u8_in _ ⟨h1, h2⟩

/-! ### places -/
def ixAt (B : Code) (n : Nat) (p : List Nat) (l : Slots) (i : Nat) : Option (Option Nat × TypeId × Value × Value) :=
  match opAt B n p l i with
  | some o => match o.op with
    | .indexAddr t x y => bif knows l x && knows l y then some (o.dst, t, evL l x, evL l y) else none
    | _ => none
  | none => none
theorem run_indexAt {t e : TypeId} {b o len cap j sz : Nat} {k : IntKind} {m : Int} (hu : P.underlying t = some (.slice e)) (hs : (P.info? e).map (·.size) = some sz) (hm : m = (j : Int)) (hlt : j < len) :
    (Instr.indexAt t (.slice (some ⟨b, o, none⟩) len cap) (.int k m)).run P w = .ok (.pointer (some ⟨b, o + j * sz, none⟩)) w := by
  subst hm
  cases hq : P.info? e with
  | none => simp [hq] at hs
  | some ie =>
    have hsz : ie.size = sz := by simpa [hq] using hs
    subst hsz
    have h0 : (0 : Int) ≤ (j : Int) ∧ (j : Int) < (len : Int) := ⟨by omega, by omega⟩
    simp [Instr.indexAt, asIntOf, Sem.run_bind, run_underlying hu w, sizeOf, typeInfo, hq, h0, Addr.add_lit]
    omega
theorem ixAt_run {d : Option Nat} {t : TypeId} {x y v : Value} (h : ixAt B n p l i = some (d, t, x, y)) (hr : (Instr.indexAt t x y).run P w = .ok v w) : ∃ o, opAt B n p l i = some o ∧ o.dst = d ∧ ∀ a, Fr n l a → (execOp a.eval o).run P w = .ok (.value v) w := by
  unfold ixAt at h
  cases ho : opAt B n p l i with
  | none => rw [ho] at h; cases h
  | some o =>
    rw [ho] at h
    simp only at h
    cases hop : o.op with
    | indexAddr t' x' y' =>
      rw [hop] at h
      simp only at h
      cases hk : (knows l x' && knows l y') with
      | false => rw [hk] at h; cases h
      | true =>
        rw [hk] at h
        simp only [cond_true, Option.some.injEq, Prod.mk.injEq] at h
        rw [Bool.and_eq_true] at hk
        obtain ⟨hd, rfl, rfl, rfl⟩ := h
        refine ⟨o, rfl, hd, fun a ha => ?_⟩
        unfold execOp
        rw [hop]
        simp only [ha.eval hk.1, ha.eval hk.2, Sem.run_bind, hr, Result.andThen_ok]
        rfl
    | _ => rw [hop] at h; cases h
/-- '&s[i]' of a slice. -/
theorem SL.index {d : Nat} {t e : TypeId} {b o len cap sz : Nat} {k : IntKind} {m : Int} (j : Nat) (h : ixAt B n p l i = some (some d, t, .slice (some ⟨b, o, none⟩) len cap, .int k m)) (hu : P.underlying t = some (.slice e)) (hs : (P.info? e).map (·.size) = some sz) (hm : m = (j : Int)) (hlt : j < len)
    (kk : SL P B n Q p is ((d, .pointer (some ⟨b, o + j * sz, none⟩)) :: l) w) : SL P B n Q p (i :: is) l w := SL.byRun (ixAt_run h (run_indexAt hu hs hm hlt)) kk
theorem SU.index [hne : Nonempty (Later C)] {d : Nat} {t e : TypeId} {b o len cap sz : Nat} {k : IntKind} {m : Int} (j : Nat) (h : ixAt B n p l i = some (some d, t, .slice (some ⟨b, o, none⟩) len cap, .int k m)) (hu : P.underlying t = some (.slice e)) (hs : (P.info? e).map (·.size) = some sz) (hm : m = (j : Int)) (hlt : j < len)
    (kk : SU P B n C K p qs ((d, .pointer (some ⟨b, o + j * sz, none⟩)) :: l)) : SU P B n C K p (i :: qs) l := SU.byRun (fun y hy => ixAt_run h (run_indexAt hu hs hm hlt)) kk
/-- a string's byte. -/
theorem run_sindex {t : TypeId} {s : ByteArray} {k : IntKind} {m : Int} {j : Nat} {r : Int} (hu : P.underlying t = some .string) (hm : m = (j : Int)) (hlt : j < s.size) (hr : ((s[j]'hlt).toNat : Int) = r) : (Instr.index t (.string s) (.int k m)).run P w = .ok (.int .u8 r) w := by
  subst hm hr
  simp [Instr.index, asIntOf, Sem.run_bind, run_underlying hu w, hlt]
def sxAt (B : Code) (n : Nat) (p : List Nat) (l : Slots) (i : Nat) : Option (Option Nat × TypeId × Value × Value) :=
  match opAt B n p l i with
  | some o => match o.op with
    | .index t x y => bif knows l x && knows l y then some (o.dst, t, evL l x, evL l y) else none
    | _ => none
  | none => none
theorem sxAt_run {d : Option Nat} {t : TypeId} {x y v : Value} (h : sxAt B n p l i = some (d, t, x, y)) (hr : (Instr.index t x y).run P w = .ok v w) : ∃ o, opAt B n p l i = some o ∧ o.dst = d ∧ ∀ a, Fr n l a → (execOp a.eval o).run P w = .ok (.value v) w := by
  unfold sxAt at h
  cases ho : opAt B n p l i with
  | none => rw [ho] at h; cases h
  | some o =>
    rw [ho] at h
    simp only at h
    cases hop : o.op with
    | index t' x' y' =>
      rw [hop] at h
      simp only at h
      cases hk : (knows l x' && knows l y') with
      | false => rw [hk] at h; cases h
      | true =>
        rw [hk] at h
        simp only [cond_true, Option.some.injEq, Prod.mk.injEq] at h
        rw [Bool.and_eq_true] at hk
        obtain ⟨hd, rfl, rfl, rfl⟩ := h
        refine ⟨o, rfl, hd, fun a ha => ?_⟩
        unfold execOp
        rw [hop]
        simp only [ha.eval hk.1, ha.eval hk.2, Sem.run_bind, hr, Result.andThen_ok]
        rfl
    | _ => rw [hop] at h; cases h
theorem SL.sindex {d : Nat} {t : TypeId} {s : ByteArray} {k : IntKind} {m r : Int} (j : Nat) (h : sxAt B n p l i = some (some d, t, .string s, .int k m)) (hu : P.underlying t = some .string) (hm : m = (j : Int)) (hlt : j < s.size) (hr : ((s[j]'hlt).toNat : Int) = r)
    (kk : SL P B n Q p is ((d, .int .u8 r) :: l) w) : SL P B n Q p (i :: is) l w := SL.byRun (sxAt_run h (run_sindex hu hm hlt hr)) kk
theorem SU.sindex [hne : Nonempty (Later C)] {d : Nat} {t : TypeId} {s : ByteArray} {k : IntKind} {m r : Int} (j : Nat) (h : sxAt B n p l i = some (some d, t, .string s, .int k m)) (hu : P.underlying t = some .string) (hm : m = (j : Int)) (hlt : j < s.size) (hr : ((s[j]'hlt).toNat : Int) = r)
    (kk : SU P B n C K p qs ((d, .int .u8 r) :: l)) : SU P B n C K p (i :: qs) l := SU.byRun (fun y hy => sxAt_run h (run_sindex hu hm hlt hr)) kk

/-! ### memory, by its names -/
theorem SL.boxM {d : Nat} {t : TypeId} {v : Value} {cs : Array Value} (M : Mem w0 w L) (h : bxAt B n p l i = some (some d, t, v)) (hc : v.cells = cs)
    (k : ∀ g w', Below w.heap.size w w' → w.heap.size ≤ g ∧ g < w'.heap.size → Mem w0 w' (bx g cs t :: L) → SL P B n Q p is ((d, .pointer (some ⟨g, 0, none⟩)) :: l) w') : SL P B n Q p (i :: is) l w :=
  SL.box h hc (k _ _ (bel1 w _) ⟨Nat.le_refl _, by simp⟩ (M.alloc cs t))
theorem SL.allocM {d : Nat} {t : TypeId} {z : Value} {cs : Array Value} (M : Mem w0 w L) (h : alAt B n p l i = some (some d, t)) (hz : (P.info? t).map (·.zero) = some (some z)) (hc : z.cells = cs)
    (k : ∀ g w', Below w.heap.size w w' → w.heap.size ≤ g ∧ g < w'.heap.size → Mem w0 w' (bx g cs t :: L) → SL P B n Q p is ((d, .pointer (some ⟨g, 0, none⟩)) :: l) w') : SL P B n Q p (i :: is) l w :=
  SL.alloc h hz hc (k _ _ (bel1 w _) ⟨Nat.le_refl _, by simp⟩ (M.alloc cs t))
theorem SL.buildSliceM {d : Nat} {t e : TypeId} {len size : Nat} {z : Value} {ps : List (Nat × Value)} {cs : Array Value} (M : Mem w0 w L) (h : bsAt B n p l i = some (some d, t, len, ps))
    (hu : P.underlying t = some (.slice e)) (hi : (P.info? e).map (fun i => (i.size, i.zero)) = some (size, some z)) (h1 : Nat.ble (len * size) 16777216 = true) (h2 : Nat.beq (len * size) 0 = false)
    (hf : Instr.fill (fun i => some (i * size, size)) ((List.range (len * size)).map (z.cells[· % z.cells.size]!)).toArray ps = some cs)
    (k : ∀ g w', Below w.heap.size w w' → w.heap.size ≤ g ∧ g < w'.heap.size → Mem w0 w' (bx g cs e :: L) → SL P B n Q p is ((d, .slice (some ⟨g, 0, none⟩) len len) :: l) w') : SL P B n Q p (i :: is) l w :=
  SL.buildSlice h hu hi h1 h2 hf (k _ _ (bel1 w _) ⟨Nat.le_refl _, by simp⟩ (M.alloc cs e))
theorem SL.storeM {t : TypeId} {a v : Value} {L' : List Res} {G : Nat → Prop} (h : stAt B n p l i = some (none, t, a, v)) (hl : ∃ w', (Instr.storeAt t a v).run P w = .ok () w' ∧ Mem w0 w' L' ∧ Ke G w w' ∧ w'.heap.size = w.heap.size)
    (k : ∀ w', Mem w0 w' L' → Ke G w w' → w'.heap.size = w.heap.size → SL P B n Q p is l w') : SL P B n Q p (i :: is) l w := by
  obtain ⟨w', h1, h2, h3, h4⟩ := hl
  exact SL.store h h1 (k w' h2 h3 h4)
theorem SL.appendM {d : Nat} {ts : List TypeId} {ty : TypeId} {vs : List Value} {k' : Nat} {L' : Option Addr → Nat → List Res} {G : Nat → Prop} (h : biAt B n p l i = some (some d, Builtin.append, ts, ty, vs))
    (hl : ∃ a' c' w', (∀ k, (Go.builtin Builtin.append ts.toArray ty k vs.toArray).run P w = Result.ok (Next.value (.slice a' k' c')) w') ∧ Mem w0 w' (L' a' c') ∧ Ke G w w')
    (k : ∀ a' c' w', Mem w0 w' (L' a' c') → Ke G w w' → SL P B n Q p is ((d, .slice a' k' c') :: l) w') : SL P B n Q p (i :: is) l w := by
  obtain ⟨a', c', w', h1, h2, h3⟩ := hl
  exact SL.builtin h h1 (k a' c' w' h2 h3)
theorem run_len {t ty : TypeId} {a : Option Addr} {m c : Nat} {d : TypeDesc} (hu : P.underlying t = some d) (hd : (match d with | .slice _ => true | _ => false) = true) (k : Array Bool) : (builtin .len [t].toArray ty k [Value.slice a m c].toArray).run P w = .ok (.value (.int .i64 m)) w := by
  cases d <;> simp at hd
  show (do pure (Next.value (← Builtin.len_ #[t] ty #[.slice a m c])) : Sem Next).run P w = _
  simp [Builtin.len_, Sem.run_bind, run_underlying hu w, goInt]
theorem run_cap {t ty : TypeId} {a : Option Addr} {m c : Nat} {d : TypeDesc} (hu : P.underlying t = some d) (hd : (match d with | .slice _ => true | _ => false) = true) (k : Array Bool) : (builtin .cap [t].toArray ty k [Value.slice a m c].toArray).run P w = .ok (.value (.int .i64 c)) w := by
  cases d <;> simp at hd
  show (do pure (Next.value (← Builtin.cap_ #[t] ty #[.slice a m c])) : Sem Next).run P w = _
  simp [Builtin.cap_, Sem.run_bind, run_underlying hu w, goInt]
theorem run_slen {t ty : TypeId} {s : ByteArray} (hu : P.underlying t = some .string) (k : Array Bool) : (builtin .len [t].toArray ty k [Value.string s].toArray).run P w = .ok (.value (.int .i64 s.size)) w := by
  show (do pure (Next.value (← Builtin.len_ #[t] ty #[.string s])) : Sem Next).run P w = _
  simp [Builtin.len_, Sem.run_bind, run_underlying hu w, goInt]
theorem bel_keW {G : Nat → Prop} {w0 w w' : World} (h : Below w0.heap.size w0 w) (k : Ke G w w') (hG : ∀ i, G i → w0.heap.size ≤ i) : Below w0.heap.size w0 w' :=
  h.trans ⟨k.os, k.tape, k.output, k.size, fun i hi => k.block i (Nat.lt_of_lt_of_le hi h.size) (fun g => by have := hG i g; omega)⟩
theorem Mem.oldK (M : Mem w0 w L) {b o : Nat} {v : Value} (hG : ¬ w0.G b) (hb : b < w0.w.heap.size) (h : w0.w.cell? ⟨b, o, none⟩ = some v) : w.cell? ⟨b, o, none⟩ = some v := by
  unfold World.cell? at *
  rw [M.ke.block b hb hG]; exact h
/-- an old row's cell, in a later world. -/
theorem Mem.old {w0 : World} (M : Mem w0 w L) {b o : Nat} {v : Value} (hb : b < w0.heap.size) (h : w0.cell? ⟨b, o, none⟩ = some v) : w.cell? ⟨b, o, none⟩ = some v := (M.bel.cell (p := ⟨b, o, none⟩) hb).trans h
theorem look_pre {vs cs : List Value} {j : Nat} {v : Value} (h : vs[j]? = some v) (hp : cs.take vs.length = vs) : cs[j]? = some v := by
  rw [← hp, List.getElem?_take] at h
  split at h
  · exact h
  · cases h
theorem ld_oldPart {w0 : World} {b o : Nat} {cs vs : List Value} {t : TypeId} {d : TypeDesc} (M : Mem w0 w L) (hb : b < w0.heap.size) (hyp : ∀ (j : Nat) (v : Value), cs[j]? = some v → w0.cell? ⟨b, o + j, none⟩ = some v) (q : Nat) (hv : (cs.drop q).take vs.length = vs)
    (hu : P.underlying t = some d) (hd : d.isRow = true) (hi : (P.info? t).map (·.size) = some vs.length) {arr : Array Value} (e : vs.toArray = arr) : (Instr.loadAt t (.pointer (some ⟨b, o + q, none⟩))).run P w = .ok (.agg arr) w :=
  ld_mid (cs := vs) (fun j v hj => M.old hb (by
    rw [Nat.add_assoc]
    refine hyp _ _ ?_
    rw [← hv, List.getElem?_take] at hj
    split at hj
    · rwa [List.getElem?_drop] at hj
    · cases hj)) hu hd hi e
/-- a box of the call's own, as a slice that is read. -/
theorem rd_box (M : Mem w0 w L) (i : Nat) {g : Nat} {cs : Array Value} {t : TypeId} (h : L[i]? = some (bx g cs t)) {m c : Nat} (hc : (Nat.ble m c && Nat.ble c 1000000) = true) {xs : List Value} (hx : cs.toList = xs) : RdC w (some ⟨g, 0, none⟩) m c xs := by
  rw [Bool.and_eq_true] at hc
  have h1 := Nat.le_of_ble_eq_true hc.1
  have h2 := Nat.le_of_ble_eq_true hc.2
  subst hx
  refine ⟨⟨g, 0, fun _ => ⟨rfl, (M.at i h).lt⟩, fun j u hj => ?_⟩, (fun e => by cases e), h1, by unfold maxLen; omega⟩
  rw [Nat.zero_add, M.cell i h]
  simpa using hj
end Go.Proofs.Ytfnibpkojhgflaa
