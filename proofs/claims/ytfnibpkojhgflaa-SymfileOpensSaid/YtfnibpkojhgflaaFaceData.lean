/- Faces: their types' and objects' cells; the plain words on them. -/
import Derived.Test.YtfnibpkojhgflaaObjData
namespace Go.Proofs.Ytfnibpkojhgflaa
set_option linter.unusedVariables false
set_option linter.unusedSimpArgs false
open Go.RowKit

structure Rf where
  mod : Int
  idx : Int
def Rf.ok (r : Rf) : Prop := i64In r.mod ∧ i64In r.idx
def Rf.val (r : Rf) : Value := .agg #[.int .i64 r.mod, .int .i64 r.idx]

structure Fld where
  name : ByteArray
  off : Int
  base : Rf
def Fld.cells (x : Fld) : List Value := [.string x.name, .int .i64 x.off, .int .i64 x.base.mod, .int .i64 x.base.idx]
def fldD : Dat Fld := ⟨4, Fld.cells, fun _ x => x.name.size ≤ maxLen ∧ i64In x.off ∧ x.base.ok, by decide, fun _ => rfl, fun h _ _ => h⟩

structure FT where
  form : Int
  len : Int
  size : Int
  base : Rf
  fields : Sl Fld
def FT.cells (x : FT) : List Value := [.int .i64 x.form, .int .i64 x.len, .int .i64 x.size, .int .i64 x.base.mod, .int .i64 x.base.idx, x.fields.val]
def ftD : Dat FT := ⟨6, FT.cells, fun w x => i64In x.form ∧ i64In x.len ∧ i64In x.size ∧ x.base.ok ∧ Rows fldD w x.fields, by decide, fun _ => rfl, fun h b hB => ⟨h.1, h.2.1, h.2.2.1, h.2.2.2.1, h.2.2.2.2.below b hB⟩⟩

structure Prm where
  var : Bool
  base : Rf
def Prm.cells (x : Prm) : List Value := [.bool x.var, .int .i64 x.base.mod, .int .i64 x.base.idx]
def prmD : Dat Prm := ⟨3, Prm.cells, fun _ x => x.base.ok, by decide, fun _ => rfl, fun h _ _ => h⟩

structure FO where
  cls : Int
  name : ByteArray
  base : Rf
  value : Int
  params : Sl Prm
def FO.cells (x : FO) : List Value := [.int .i64 x.cls, .string x.name, .int .i64 x.base.mod, .int .i64 x.base.idx, .int .u32 x.value, x.params.val]
def foD : Dat FO := ⟨6, FO.cells, fun w x => i64In x.cls ∧ x.name.size ≤ maxLen ∧ x.base.ok ∧ (0 ≤ x.value ∧ x.value < 4294967296) ∧ Rows prmD w x.params, by decide, fun _ => rfl, fun h b hB => ⟨h.1, h.2.1, h.2.2.1, h.2.2.2.1, h.2.2.2.2.below b hB⟩⟩

structure Fc where
  name : ByteArray
  imps : Sl Imp
  types : Sl FT
  objs : Sl FO
def Fc.cells (f : Fc) : Array Value := #[.string f.name, f.imps.val, f.types.val, f.objs.val]
def Fc.val (f : Fc) : Value := .agg f.cells
structure Fc.Rd (w : World) (f : Fc) : Prop where
  name : f.name.size ≤ maxLen
  imps : Rows impD w f.imps
  types : Rows ftD w f.types
  objs : Rows foD w f.objs
theorem Fc.Rd.below {w w' : World} {f : Fc} {B : Nat} (h : f.Rd w) (hb : Below B w w') (hB : w.heap.size ≤ B) : f.Rd w' :=
  ⟨h.name, h.imps.below hb hB, h.types.below hb hB, h.objs.below hb hB⟩
theorem Fc.Rd.bel {w w' : World} {f : Fc} (h : f.Rd w) (hb : Below w.heap.size w w') : f.Rd w' := h.below hb (Nat.le_refl _)

/-! ### plainly: what a face is, wherever it lies -/
structure TD where
  form : Int
  len : Int
  size : Int
  base : Rf
  fields : List Fld
structure ODD where
  cls : Int
  name : ByteArray
  base : Rf
  value : Int
  params : List Prm
structure FD where
  name : ByteArray
  imps : List Imp
  types : List TD
  objs : List ODD
def FT.d (x : FT) : TD := ⟨x.form, x.len, x.size, x.base, x.fields.l⟩
def FO.d (x : FO) : ODD := ⟨x.cls, x.name, x.base, x.value, x.params.l⟩
def Fc.d (f : Fc) : FD := ⟨f.name, f.imps.l, f.types.l.map FT.d, f.objs.l.map FO.d⟩

/-- what references are held against: how many imports there are; the types' forms. -/
structure Env where
  ni : Nat
  forms : List Int
def FD.env (f : FD) : Env := ⟨f.imps.length, f.types.map TD.form⟩

def refP (e : Env) (r : Rf) : Prop := (r.mod = 0 ∧ (1 ≤ r.idx ∧ r.idx ≤ 6 ∨ 16 ≤ r.idx ∧ r.idx < 16 + e.forms.length ∧ r.idx ≤ 255)) ∨ (1 ≤ r.mod ∧ r.mod ≤ e.ni ∧ 16 ≤ r.idx ∧ r.idx ≤ 255)
instance (e : Env) (r : Rf) : Decidable (refP e r) := by unfold refP; infer_instance
def refB (e : Env) (r : Rf) : Bool := decide (refP e r)
def opened (e : Env) (r : Rf) : Bool := decide (r.mod = 0 ∧ 16 ≤ r.idx) && (e.forms[(r.idx - 16).toNat]? == some 4)
def closedB (e : Env) (r : Rf) : Bool := refB e r && !opened e r

/-- fields that may be, behind names that were seen. -/
def fieldOk (e : Env) (x : Fld) : Bool := mayName x.name && decide (0 ≤ x.off ∧ x.off ≤ 262144) && closedB e x.base
def fieldsOk (e : Env) : List ByteArray → List Fld → Bool
  | _, [] => true
  | seen, x :: r => fieldOk e x && !seen.any (fun s => decide (s = x.name)) && fieldsOk e (seen ++ [x.name]) r
def sizeIn (n : Int) : Bool := decide (1 ≤ n ∧ n ≤ 262144)
def noRef (r : Rf) : Bool := decide (r.mod = 0 ∧ r.idx = 0)
def mayTypeB (e : Env) (t : TD) : Bool :=
  if t.form = 2 then fieldsOk e [] t.fields && (decide (t.len = 0) && noRef t.base && sizeIn t.size && decide (t.fields.length ≤ 100))
  else if t.form = 1 then decide (1 ≤ t.len ∧ t.len ≤ 65535) && sizeIn t.size && decide (t.fields.length = 0) && closedB e t.base
  else if t.form = 3 ∨ t.form = 4 then decide (t.len = 0 ∧ t.size = 0 ∧ t.fields.length = 0) && closedB e t.base
  else false
def constOk (o : ODD) : Bool := decide (o.base.mod = 0 ∧ (o.base.idx = 1 ∨ o.base.idx = 5 ∨ o.base.idx = 2 ∧ o.value ≤ 1 ∨ o.base.idx = 3 ∧ o.value ≤ 255))
def mayObjB (e : Env) (o : ODD) : Bool :=
  mayName o.name && (if o.cls = 4 then decide (1 ≤ o.value ∧ o.value ≤ 200 ∧ o.params.length ≤ 12) && o.params.all (fun p => refB e p.base) && (noRef o.base || closedB e o.base)
    else decide (o.params.length = 0) && (if o.cls = 1 then constOk o else if o.cls = 3 then decide (o.value ≤ 262144) && closedB e o.base else if o.cls = 2 then decide (o.value = 0) && closedB e o.base else false))
/-- two objects that do not stand beside each other. -/
def clash (x y : ODD) : Bool := decide (x.name = y.name ∨ x.cls = 4 ∧ y.cls = 4 ∧ x.value = y.value)
def objsOk (e : Env) : List ODD → List ODD → Bool
  | _, [] => true
  | seen, x :: r => mayObjB e x && !seen.any (fun s => clash s x) && objsOk e (seen ++ [x]) r
def mayFace (f : FD) : Bool := mayImps f.name f.imps && decide (f.types.length ≤ 200 ∧ f.objs.length ≤ 900) && f.types.all (mayTypeB f.env) && objsOk f.env [] f.objs
def muchF (f : FD) : Bool := decide (40 < f.imps.length ∨ 300 < f.types.length ∨ 1000 < f.objs.length) || f.types.any (fun t => decide (120 < t.fields.length)) || f.objs.any (fun o => decide (40 < o.params.length))
end Go.Proofs.Ytfnibpkojhgflaa
