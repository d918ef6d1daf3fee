/- Plain: a face's bytes are read as it. No program in sight. -/
import Derived.Test.YtfnibpkojhgflaaFaceOut0
namespace Go.Proofs.Ytfnibpkojhgflaa
set_option linter.unusedVariables false
set_option linter.unusedSimpArgs false

def wordUp (most n : Int) : Prop := (0 ≤ n ∧ n < 4294967296) ∧ n ≤ most
def rNum (most : Int) (s : St) : Int × St := rCount most (rWord s)
theorem rNum_reads (most : Int) (h : 0 ≤ most) : Reads (rNum most) wordB (wordUp most) := rCount_reads rWord_reads most h
/-- said otherwise, of such a form. -/
theorem Reads.into {α β : Type} {f : St → α × St} {e1 : α → List Int} {o1 : α → Prop} (hf : Reads f e1 o1) (p : α → β) (q : β → α) (hp : ∀ x, q (p x) = x) :
    Reads (fun s => (p (f s).1, (f s).2)) (fun y => e1 (q y)) (fun y => o1 (q y) ∧ p (q y) = y) where
  full := by
    intro x r ⟨h, h'⟩
    try simp only
    rw [hf.full _ _ h]
    simp only
    rw [h']
  sound := by
    intro b x r hb e
    obtain ⟨y, s, hs⟩ : ∃ y s, f (some b) = (y, s) := ⟨_, _, rfl⟩
    try simp only at e
    rw [hs] at e
    simp only [Prod.mk.injEq] at e
    obtain ⟨rfl, rfl⟩ := e
    have := hf.sound b y r hb hs
    rw [hp]
    exact ⟨this.1, this.2, rfl⟩
  bad := hf.bad
/-- the second by what the first one is. -/
theorem Reads.dep {α β : Type} {f : St → α × St} {e1 : α → List Int} {o1 : α → Prop} (hf : Reads f e1 o1) {g : α → St → β × St} {e2 : α → β → List Int} {o2 : α → β → Prop} (hg : ∀ a, Reads (g a) (e2 a) (o2 a)) :
    Reads (fun s => (((f s).1, (g (f s).1 (f s).2).1), (g (f s).1 (f s).2).2)) (fun x => e1 x.1 ++ e2 x.1 x.2) (fun x => o1 x.1 ∧ o2 x.1 x.2) where
  full := by
    intro x r ⟨h1, h2⟩
    try simp only
    rw [List.append_assoc, hf.full _ _ h1]
    simp only
    rw [(hg _).full _ _ h2]
  sound := by
    intro b x r hb e
    obtain ⟨y, s, hs⟩ : ∃ y s, f (some b) = (y, s) := ⟨_, _, rfl⟩
    try simp only at e
    rw [hs] at e
    obtain ⟨z, t, ht⟩ : ∃ z t, g y s = (z, t) := ⟨_, _, rfl⟩
    simp only at e
    rw [ht] at e
    simp only [Prod.mk.injEq] at e
    obtain ⟨rfl, rfl⟩ := e
    obtain ⟨c, rfl⟩ := (hg y).from ht
    obtain ⟨rfl, h2⟩ := hf.sound b y c hb hs
    obtain ⟨rfl, h3⟩ := (hg y).sound c z r (fun u hu => hb u (by simp [hu])) ht
    exact ⟨by rw [List.append_assoc], h2, h3⟩
  bad := by
    show (g _ (f none).2).2 = none
    rw [hf.bad]
    exact (hg _).bad
theorem Reads.ite {α : Type} {c : Prop} [Decidable c] {f g : St → α × St} {e1 e2 : α → List Int} {o1 o2 : α → Prop} (hf : Reads f e1 o1) (hg : Reads g e2 o2) : Reads (fun s => if c then f s else g s) (fun x => if c then e1 x else e2 x) (fun x => if c then o1 x else o2 x) := by
  by_cases h : c
  · simp only [if_pos h]; exact hf
  · simp only [if_neg h]; exact hg
theorem Reads.cong {α : Type} {f f' : St → α × St} {e e' : α → List Int} {o o' : α → Prop} (h : Reads f e o) (hf : ∀ s, f' s = f s) (he : ∀ x, e' x = e x) (ho : ∀ x, o' x ↔ o x) : Reads f' e' o' := by
  rw [show f' = f from funext hf, show e' = e from funext he, show o' = o from funext fun x => propext (ho x)]
  exact h
theorem Reads.none' {α : Type} (x0 : α) : Reads (fun s => (x0, s)) (fun _ => []) (fun x => x = x0) where
  full := by rintro x r rfl; rfl
  sound := by intro b x r _ e; simp only [Prod.mk.injEq, Option.some.injEq] at e; obtain ⟨rfl, rfl⟩ := e; exact ⟨rfl, rfl⟩
  bad := rfl

def refIn (r : Rf) : Prop := isByte r.mod ∧ isByte r.idx
def rRef (s : St) : Rf × St := (⟨(rByte s).1, (rByte (rByte s).2).1⟩, (rByte (rByte s).2).2)
theorem rRef_reads : Reads rRef refB2 refIn :=
  ((Reads.pair rByte_reads rByte_reads).map (fun x => (⟨x.1, x.2⟩ : Rf)) (fun y => (y.mod, y.idx)) (fun y => rfl) (fun x => rfl)).cong (fun _ => rfl) (fun _ => rfl) (fun _ => Iff.rfl)
def nameIn (s : ByteArray) : Prop := (s.size : Int) ≤ 255
def rNm (s : St) : ByteArray × St := rName 255 s
theorem rNm_reads : Reads rNm nameB nameIn := rName_reads 255 (by decide) (by decide)
def impIn (x : Imp) : Prop := nameIn x.name ∧ 0 ≤ x.key ∧ x.key < 4294967296
def rImp8 (s : St) : Imp × St := (⟨(rNm s).1, (rWord (rNm s).2).1⟩, (rWord (rNm s).2).2)
theorem rImp8_reads : Reads rImp8 impF impIn :=
  ((Reads.pair rNm_reads rWord_reads).map (fun x => (⟨x.1, x.2⟩ : Imp)) (fun y => (y.name, y.key)) (fun y => rfl) (fun x => rfl)).cong (fun _ => rfl) (fun _ => rfl) (fun _ => Iff.rfl)
def fldIn (x : Fld) : Prop := nameIn x.name ∧ wordUp 262144 x.off ∧ refIn x.base
def rFld (s : St) : Fld × St := (⟨(rNm s).1, (rNum 262144 (rNm s).2).1, (rRef (rNum 262144 (rNm s).2).2).1⟩, (rRef (rNum 262144 (rNm s).2).2).2)
theorem rFld_reads : Reads rFld fldF fldIn :=
  ((Reads.pair rNm_reads (Reads.pair (rNum_reads 262144 (by decide)) rRef_reads)).map (fun x => (⟨x.1, x.2.1, x.2.2⟩ : Fld)) (fun y => (y.name, y.off, y.base)) (fun y => rfl) (fun x => rfl)).cong (fun _ => rfl) (fun _ => rfl) (fun _ => Iff.rfl)
def rVar (s : St) : Bool × St := ((rByte s).1 == 1, if 1 < (rByte s).1 then none else (rByte s).2)
theorem rVar_reads : Reads rVar (fun b => [if b then 1 else 0]) (fun _ => True) where
  full := by
    intro x r _
    unfold rVar
    have := rByte_reads.full (if x then 1 else 0) r (by cases x <;> exact ⟨by decide, by decide⟩)
    have e : ([if x then 1 else 0] : List Int) = [(if x then 1 else 0) % 256] := by cases x <;> rfl
    rw [e, this]
    cases x <;> rfl
  sound := by
    intro b x r hb e
    unfold rVar at e
    obtain ⟨y, s, hs⟩ : ∃ y s, rByte (some b) = (y, s) := ⟨_, _, rfl⟩
    rw [hs] at e
    simp only [Prod.mk.injEq] at e
    obtain ⟨rfl, h2⟩ := e
    by_cases h : 1 < y
    · rw [if_pos h] at h2; cases h2
    · rw [if_neg h] at h2
      subst h2
      obtain ⟨rfl, h3⟩ := rByte_reads.sound b y r hb hs
      refine ⟨?_, trivial⟩
      have h3 : 0 ≤ y ∧ y < 256 := h3
      rcases (by omega : y = 0 ∨ y = 1) with rfl | rfl <;> rfl
  bad := by
    unfold rVar
    split
    · rfl
    · exact rByte_reads.bad
def rPrm (s : St) : Prm × St := (⟨(rVar s).1, (rRef (rVar s).2).1⟩, (rRef (rVar s).2).2)
def prmIn (p : Prm) : Prop := refIn p.base
theorem rPrm_reads : Reads rPrm prmF prmIn :=
  ((Reads.pair rVar_reads rRef_reads).map (fun x => (⟨x.1, x.2⟩ : Prm)) (fun y => (y.var, y.base)) (fun y => rfl) (fun x => rfl)).cong (fun _ => rfl) (fun _ => rfl) (fun y => ⟨fun h => ⟨trivial, h⟩, fun h => h.2⟩)

/-- a list, its length as a byte ahead. -/
def rMany {α : Type} (f : St → α × St) (s : St) : List α × St := rLoop f (rByte s).1.toNat (rByte s).2
theorem rMany_reads {α : Type} {f : St → α × St} {e : α → List Int} {ok : α → Prop} (h : Reads f e ok) : Reads (rMany f) (fun l => [(l.length : Int) % 256] ++ l.flatMap e) (fun l => isByte l.length ∧ ∀ x ∈ l, ok x) :=
  Reads.counted (len := List.length) (ok := fun _ (l : List α) => ∀ x ∈ l, ok x) rByte_reads (fun n h => h.1) (fun n => rLoop_reads h n)

/-- what stands behind a type's form. -/
structure TB where
  len : Int
  size : Int
  base : Rf
  fields : List Fld
def rRecord (s : St) : TB × St := (⟨0, (rNum 262144 s).1, ⟨0, 0⟩, (rMany rFld (rNum 262144 s).2).1⟩, (rMany rFld (rNum 262144 s).2).2)
def rArray (s : St) : TB × St := (⟨(rNum 65535 s).1, (rNum 262144 (rNum 65535 s).2).1, (rRef (rNum 262144 (rNum 65535 s).2).2).1, []⟩, (rRef (rNum 262144 (rNum 65535 s).2).2).2)
def rBare (s : St) : TB × St := (⟨0, 0, (rRef s).1, []⟩, (rRef s).2)
def rBody8 (f : Int) (s : St) : TB × St := if f = 2 then rRecord s else if f = 1 then rArray s else rBare s
def tbB (f : Int) (t : TB) : List Int := if f = 2 then wordB t.size ++ ([(t.fields.length : Int) % 256] ++ t.fields.flatMap fldF) else if f = 1 then wordB t.len ++ (wordB t.size ++ refB2 t.base) else refB2 t.base
def recIn (t : TB) : Prop := (wordUp 262144 t.size ∧ isByte t.fields.length ∧ ∀ x ∈ t.fields, fldIn x) ∧ t.len = 0 ∧ t.base = ⟨0, 0⟩
def arrIn (t : TB) : Prop := (wordUp 65535 t.len ∧ wordUp 262144 t.size ∧ refIn t.base) ∧ t.fields = []
def bareIn (t : TB) : Prop := refIn t.base ∧ t.len = 0 ∧ t.size = 0 ∧ t.fields = []
def tbIn (f : Int) (t : TB) : Prop := if f = 2 then recIn t else if f = 1 then arrIn t else bareIn t
theorem rBody8_reads (f : Int) : Reads (rBody8 f) (tbB f) (tbIn f) := by
  have h2 : Reads rRecord (fun t => wordB t.size ++ ([(t.fields.length : Int) % 256] ++ t.fields.flatMap fldF)) recIn :=
    ((Reads.pair (rNum_reads 262144 (by decide)) (rMany_reads rFld_reads)).into (fun x => (⟨0, x.1, ⟨0, 0⟩, x.2⟩ : TB)) (fun y => (y.size, y.fields)) (fun x => rfl)).cong (fun _ => rfl) (fun _ => rfl) (fun y => by
      constructor
      · rintro ⟨h1, h2, h3⟩; exact ⟨h1, by obtain ⟨a, b, c, d⟩ := y; dsimp only at h2 h3; subst h2 h3; rfl⟩
      · rintro ⟨h1, h2⟩; exact ⟨h1, by rw [← h2], by rw [← h2]⟩)
  have h1 : Reads rArray (fun t => wordB t.len ++ (wordB t.size ++ refB2 t.base)) arrIn :=
    ((Reads.pair (rNum_reads 65535 (by decide)) (Reads.pair (rNum_reads 262144 (by decide)) rRef_reads)).into (fun x => (⟨x.1, x.2.1, x.2.2, []⟩ : TB)) (fun y => (y.len, y.size, y.base)) (fun x => rfl)).cong (fun _ => rfl) (fun _ => rfl) (fun y => by
      constructor
      · rintro ⟨h1, h2⟩; exact ⟨h1, by rw [← h2]⟩
      · rintro ⟨h1, h2⟩; exact ⟨h1, by rw [← h2]⟩)
  have h0 : Reads rBare (fun t => refB2 t.base) bareIn :=
    (rRef_reads.into (fun x => (⟨0, 0, x, []⟩ : TB)) (fun y => y.base) (fun x => rfl)).cong (fun _ => rfl) (fun _ => rfl) (fun y => by
      constructor
      · rintro ⟨h1, h2, h3, h4⟩; exact ⟨h1, by obtain ⟨a, b, c, d⟩ := y; dsimp only at h2 h3 h4; subst h2 h3 h4; rfl⟩
      · rintro ⟨h1, h2⟩; exact ⟨h1, by rw [← h2], by rw [← h2], by rw [← h2]⟩)
  exact (Reads.ite (c := f = 2) h2 (Reads.ite (c := f = 1) h1 h0)).cong (fun _ => rfl) (fun _ => rfl) (fun _ => Iff.rfl)
def rTyp (s : St) : TD × St := (⟨(rByte s).1, (rBody8 (rByte s).1 (rByte s).2).1.len, (rBody8 (rByte s).1 (rByte s).2).1.size, (rBody8 (rByte s).1 (rByte s).2).1.base, (rBody8 (rByte s).1 (rByte s).2).1.fields⟩, (rBody8 (rByte s).1 (rByte s).2).2)
def typIn (t : TD) : Prop := isByte t.form ∧ tbIn t.form ⟨t.len, t.size, t.base, t.fields⟩
theorem rTyp_reads : Reads rTyp typF typIn :=
  ((Reads.dep rByte_reads rBody8_reads).map (fun x => (⟨x.1, x.2.len, x.2.size, x.2.base, x.2.fields⟩ : TD)) (fun y => (y.form, ⟨y.len, y.size, y.base, y.fields⟩)) (fun y => rfl) (fun x => rfl)).cong (fun _ => rfl) (fun t => by
    unfold typF typHead tbB
    by_cases h2 : t.form = 2
    · simp only [if_pos h2, List.append_assoc]
    · by_cases h1 : t.form = 1
      · simp only [if_neg h2, if_pos h1, List.append_assoc]
      · simp only [if_neg h2, if_neg h1, List.nil_append]) (fun _ => Iff.rfl)

/-- what stands behind an object's base. -/
structure OB where
  value : Int
  params : List Prm
def rValue (s : St) : OB × St := (⟨(rWord s).1, []⟩, (rWord s).2)
def rProc (s : St) : OB × St := (⟨(rByte s).1, (rMany rPrm (rByte s).2).1⟩, (rMany rPrm (rByte s).2).2)
def rNone8 (s : St) : OB × St := (⟨0, []⟩, s)
def rTail8 (c : Int) (s : St) : OB × St := if c = 1 ∨ c = 3 then rValue s else if c = 4 then rProc s else rNone8 s
def obB (c : Int) (t : OB) : List Int := if c = 1 ∨ c = 3 then wordB t.value else if c = 4 then [t.value % 256] ++ ([(t.params.length : Int) % 256] ++ t.params.flatMap prmF) else []
def obIn (c : Int) (t : OB) : Prop := if c = 1 ∨ c = 3 then (0 ≤ t.value ∧ t.value < 4294967296) ∧ t.params = [] else if c = 4 then isByte t.value ∧ isByte t.params.length ∧ ∀ x ∈ t.params, prmIn x else t.value = 0 ∧ t.params = []
theorem rTail8_reads (c : Int) : Reads (rTail8 c) (obB c) (obIn c) := by
  have h1 : Reads rValue (fun t => wordB t.value) (fun t => (0 ≤ t.value ∧ t.value < 4294967296) ∧ t.params = []) :=
    (rWord_reads.into (fun x => (⟨x, []⟩ : OB)) (fun y => y.value) (fun x => rfl)).cong (fun _ => rfl) (fun _ => rfl) (fun y => by
      constructor
      · rintro ⟨h1, h2⟩; exact ⟨h1, by rw [← h2]⟩
      · rintro ⟨h1, h2⟩; exact ⟨h1, by rw [← h2]⟩)
  have h4 : Reads rProc (fun t => [t.value % 256] ++ ([(t.params.length : Int) % 256] ++ t.params.flatMap prmF)) (fun t => isByte t.value ∧ isByte t.params.length ∧ ∀ x ∈ t.params, prmIn x) :=
    ((Reads.pair rByte_reads (rMany_reads rPrm_reads)).map (fun x => (⟨x.1, x.2⟩ : OB)) (fun y => (y.value, y.params)) (fun y => rfl) (fun x => rfl)).cong (fun _ => rfl) (fun _ => rfl) (fun _ => Iff.rfl)
  have h0 : Reads rNone8 (fun _ => []) (fun t => t.value = 0 ∧ t.params = []) := (Reads.none' (⟨0, []⟩ : OB)).cong (fun _ => rfl) (fun _ => rfl) (fun y => by
    constructor
    · rintro ⟨h1, h2⟩; obtain ⟨a, b⟩ := y; exact (by dsimp only at h1 h2; rw [h1, h2])
    · rintro rfl; exact ⟨rfl, rfl⟩)
  exact (Reads.ite (c := c = 1 ∨ c = 3) h1 (Reads.ite (c := c = 4) h4 h0)).cong (fun _ => rfl) (fun _ => rfl) (fun _ => Iff.rfl)
def rHead8 (s : St) : (Int × ByteArray × Rf) × St := (((rByte s).1, (rNm (rByte s).2).1, (rRef (rNm (rByte s).2).2).1), (rRef (rNm (rByte s).2).2).2)
theorem rHead8_reads : Reads rHead8 (fun x => [x.1 % 256] ++ (nameB x.2.1 ++ refB2 x.2.2)) (fun x => isByte x.1 ∧ nameIn x.2.1 ∧ refIn x.2.2) := Reads.pair rByte_reads (Reads.pair rNm_reads rRef_reads)
def rObj8 (s : St) : ODD × St := (⟨(rHead8 s).1.1, (rHead8 s).1.2.1, (rHead8 s).1.2.2, (rTail8 (rHead8 s).1.1 (rHead8 s).2).1.value, (rTail8 (rHead8 s).1.1 (rHead8 s).2).1.params⟩, (rTail8 (rHead8 s).1.1 (rHead8 s).2).2)
def objIn (o : ODD) : Prop := (isByte o.cls ∧ nameIn o.name ∧ refIn o.base) ∧ obIn o.cls ⟨o.value, o.params⟩
theorem rObj8_reads : Reads rObj8 objF objIn :=
  ((Reads.dep rHead8_reads (fun x => rTail8_reads x.1)).map (fun x => (⟨x.1.1, x.1.2.1, x.1.2.2, x.2.value, x.2.params⟩ : ODD)) (fun y => ((y.cls, y.name, y.base), ⟨y.value, y.params⟩)) (fun y => rfl) (fun x => rfl)).cong (fun _ => rfl) (fun o => by
    unfold objF objTail obB
    by_cases h1 : o.cls = 1 ∨ o.cls = 3
    · simp only [if_pos h1, List.append_assoc]
    · by_cases h4 : o.cls = 4
      · simp only [if_neg h1, if_pos h4, List.append_assoc, List.cons_append, List.nil_append]
      · simp only [if_neg h1, if_neg h4, List.append_nil, List.append_assoc]) (fun _ => Iff.rfl)

abbrev Rest8 := List Imp × List TD × List ODD
def rObjs8 (s : St) : List ODD × St := rLoop rObj8 (rNum 900 s).1.toNat (rNum 900 s).2
theorem rObjs8_reads : Reads rObjs8 (fun l => wordB l.length ++ l.flatMap objF) (fun l => wordUp 900 l.length ∧ ∀ x ∈ l, objIn x) :=
  Reads.counted (len := List.length) (ok := fun _ (l : List ODD) => ∀ x ∈ l, objIn x) (rNum_reads 900 (by decide)) (fun n h => h.1.1) (fun n => rLoop_reads rObj8_reads n)
def rRest8 (s : St) : Rest8 × St := (((rMany rImp8 s).1, (rMany rTyp (rMany rImp8 s).2).1, (rObjs8 (rMany rTyp (rMany rImp8 s).2).2).1), (rObjs8 (rMany rTyp (rMany rImp8 s).2).2).2)
def rest8 (x : Rest8) : List Int := ([(x.1.length : Int) % 256] ++ x.1.flatMap impF) ++ (([(x.2.1.length : Int) % 256] ++ x.2.1.flatMap typF) ++ (wordB x.2.2.length ++ x.2.2.flatMap objF))
def restIn (x : Rest8) : Prop := (isByte x.1.length ∧ ∀ y ∈ x.1, impIn y) ∧ (isByte x.2.1.length ∧ ∀ y ∈ x.2.1, typIn y) ∧ (wordUp 900 x.2.2.length ∧ ∀ y ∈ x.2.2, objIn y)
theorem rRest8_reads : Reads rRest8 rest8 restIn := Reads.pair (rMany_reads rImp8_reads) (Reads.pair (rMany_reads rTyp_reads) rObjs8_reads)
theorem rest8_eq (f : FD) : restF f = rest8 (f.imps, f.types, f.objs) := by unfold restF rest8; simp only [List.append_assoc]

/-- what bytes are a face's, and with which key. -/
def ofRest (n : ByteArray) (k : Int) (r : List Int) : Option (FD × Int) :=
  if Key.of r = k then
    match rRest8 (some r) with
    | (x, some []) => if mayFace ⟨n, x.1, x.2.1, x.2.2⟩ then some (⟨n, x.1, x.2.1, x.2.2⟩, k) else none
    | _ => none
  else none
def ofF (b : List Int) : Option (FD × Int) :=
  match rSome 2 (some b) with
  | ([83, 49], s) => match rNm s with
    | (n, s) => match rWord s with
      | (k, some r) => ofRest n k r
      | _ => none
  | _ => none
structure FIn (f : FD) : Prop where
  name : nameIn f.name
  rest : restIn (f.imps, f.types, f.objs)
theorem key_bd (l : List Int) : 0 ≤ Key.of l ∧ Key.of l < 4294967296 := by
  have := Key.of_bd l
  exact this
theorem ofRest_full {f : FD} (h : mayFace f = true) (hf : FIn f) : ofRest f.name (Key.of (restF f)) (restF f) = some (f, Key.of (restF f)) := by
  unfold ofRest
  rw [if_pos rfl]
  have := rRest8_reads.full (f.imps, f.types, f.objs) [] hf.rest
  rw [List.append_nil, ← rest8_eq] at this
  rw [this]
  simp only
  rw [if_pos h]
theorem ofF_full {f : FD} (h : mayFace f = true) (hf : FIn f) : ofF (bytesF f) = some (f, Key.of (restF f)) := by
  unfold ofF bytesF
  rw [rSome_full [83, 49] _ 2 rfl]
  simp only
  rw [rNm_reads.full _ _ hf.name]
  simp only
  rw [rWord_reads.full _ _ (key_bd _)]
  exact ofRest_full h hf
theorem ofRest_sound {n : ByteArray} {k : Int} {r : List Int} {f : FD} {k' : Int} (hr : ∀ y ∈ r, isByte y) (hn : nameIn n) (h : ofRest n k r = some (f, k')) : f.name = n ∧ k' = k ∧ k = Key.of (restF f) ∧ r = restF f ∧ mayFace f = true ∧ FIn f := by
  unfold ofRest at h
  split at h
  · rename_i hk
    split at h
    · rename_i x hx
      split at h
      · rename_i hm
        simp only [Option.some.injEq, Prod.mk.injEq] at h
        obtain ⟨rfl, rfl⟩ := h
        obtain ⟨h1, h2⟩ := rRest8_reads.sound r _ [] hr hx
        rw [List.append_nil] at h1
        have e : r = restF ⟨n, x.1, x.2.1, x.2.2⟩ := by rw [h1, rest8_eq]
        exact ⟨rfl, rfl, by rw [← hk, ← e], e, hm, ⟨hn, h2⟩⟩
      · cases h
    · cases h
  · cases h
theorem ofF_sound {b : List Int} {f : FD} {k : Int} (hb : ∀ y ∈ b, isByte y) (h : ofF b = some (f, k)) : b = bytesF f ∧ k = Key.of (restF f) ∧ mayFace f = true ∧ FIn f := by
  unfold ofF at h
  split at h
  · rename_i s hs
    cases s with
    | none =>
      have : (rWord (rNm none).2).2 = none := by rw [rNm_reads.bad]; exact rWord_reads.bad
      split at h
      · rename_i n s2 hn
        split at h
        · rename_i k2 r hw
          rw [hn] at this; dsimp only at this; rw [hw] at this; cases this
        · cases h
    | some c =>
      obtain ⟨rfl, _⟩ := rSome_sound hs
      have hc : ∀ y ∈ c, isByte y := fun y hy => hb y (by simp [hy])
      split at h
      · rename_i n s2 hn
        split at h
        · rename_i k2 r hw
          obtain ⟨d, rfl⟩ := rWord_reads.from hw
          obtain ⟨rfl, q1⟩ := rNm_reads.sound c n d hc hn
          obtain ⟨rfl, q2⟩ := rWord_reads.sound d k2 r (fun y hy => hc y (by simp [hy])) hw
          obtain ⟨e1, e2, e3, e4, e5, e6⟩ := ofRest_sound (fun y hy => hc y (by simp [hy])) q1 h
          subst e1 e2 e4
          exact ⟨by unfold bytesF; rw [← e3], e3, e5, e6⟩
        · cases h
  · cases h
/-- unlike faces that may be have unlike bytes. -/
theorem bytesF_inj {f g : FD} (hf : mayFace f = true) (hg : mayFace g = true) (h1 : FIn f) (h2 : FIn g) (h : bytesF f = bytesF g) : f = g := by
  have e1 := ofF_full hf h1
  have e2 := ofF_full hg h2
  rw [h, e2] at e1
  exact (Prod.mk.inj (Option.some.inj e1)).1.symm
end Go.Proofs.Ytfnibpkojhgflaa
