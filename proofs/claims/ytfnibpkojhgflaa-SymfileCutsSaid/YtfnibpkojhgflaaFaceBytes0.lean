/- Plain: a face's bytes behind its key. A struct within a struct, in quiet walks. -/
import Derived.Test.YtfnibpkojhgflaaFaceA
import Derived.Test.YtfnibpkojhgflaaLibA
namespace Go.Proofs.Ytfnibpkojhgflaa
set_option linter.unusedVariables false
set_option linter.unusedSimpArgs false
open Go.RowKit

def refB2 (r : Rf) : List Int := [r.mod % 256, r.idx % 256]
theorem refB2_byte (r : Rf) : ∀ x ∈ refB2 r, isByte x := by
  intro x hx
  unfold refB2 at hx
  simp only [List.mem_cons, List.not_mem_nil, or_false] at hx
  rcases hx with rfl | rfl <;> exact ⟨by omega, by omega⟩
theorem wordB_mod (n : Int) : wordB (n % 4294967296) = wordB n := by
  unfold wordB
  rw [show n % 4294967296 % 256 = n % 256 by omega, show n % 4294967296 / 256 % 256 = n / 256 % 256 by omega, show n % 4294967296 / 65536 % 256 = n / 65536 % 256 by omega, show n % 4294967296 / 16777216 % 256 = n / 16777216 % 256 by omega]
def impF (x : Imp) : List Int := nameB x.name ++ wordB x.key
def fldF (x : Fld) : List Int := nameB x.name ++ (wordB x.off ++ refB2 x.base)
def typHead (t : TD) : List Int := if t.form = 2 then wordB t.size ++ [(t.fields.length : Int) % 256] else if t.form = 1 then wordB t.len ++ wordB t.size else []
def typF (t : TD) : List Int := [t.form % 256] ++ (typHead t ++ (if t.form = 2 then t.fields.flatMap fldF else refB2 t.base))
def prmF (p : Prm) : List Int := [if p.var then 1 else 0] ++ refB2 p.base
def objTail (o : ODD) : List Int := if o.cls = 1 ∨ o.cls = 3 then wordB o.value else if o.cls = 4 then [o.value % 256, (o.params.length : Int) % 256] ++ o.params.flatMap prmF else []
def objF (o : ODD) : List Int := ([o.cls % 256] ++ (nameB o.name ++ refB2 o.base)) ++ objTail o
def restF (f : FD) : List Int := [(f.imps.length : Int) % 256] ++ (f.imps.flatMap impF ++ ([(f.types.length : Int) % 256] ++ (f.types.flatMap typF ++ (wordB f.objs.length ++ f.objs.flatMap objF))))

theorem take_flatF {α : Type} {l : List α} {k : Nat} {x : α} (h : l[k]? = some x) (f : α → List Int) : (l.take (k + 1)).flatMap f = (l.take k).flatMap f ++ f x := by
  rw [take_get h, List.flatMap_append]; simp
theorem take_allF {α : Type} {l : List α} (f : α → List Int) : (l.take l.length).flatMap f = l.flatMap f := by rw [List.take_length]

/-- bounds of what may be. -/
structure SmallF (f : Fc) : Prop where
  name : f.name.size ≤ 15
  nimps : f.imps.l.length ≤ 12
  imps : ∀ x ∈ f.imps.l, x.name.size ≤ 15
  ntypes : f.types.l.length ≤ 200
  fields : ∀ x ∈ f.types.l, x.fields.l.length ≤ 100
  names : ∀ x ∈ f.types.l, ∀ y ∈ x.fields.l, y.name.size ≤ 15
  nobjs : f.objs.l.length ≤ 900
  onames : ∀ x ∈ f.objs.l, x.name.size ≤ 15
  params : ∀ x ∈ f.objs.l, x.params.l.length ≤ 12

/-- a struct within a struct: its load, in every world of a segment. -/
theorem At.loads2 {P : Program} {w : World} {g o : Nat} {cs : Array Value} {t : TypeId} (h : At w g cs t) (vs : List Value) (hv : ∀ (j : Nat) (v : Value), vs[j]? = some v → cs[o + j]? = some v) {ty : TypeId} {d : TypeDesc} (hu : P.underlying ty = some d) (hd : d.isRow = true) (hi : (P.info? ty).map (·.size) = some vs.length) :
    (Instr.loadAt ty (.pointer (some ⟨g, o, none⟩))).run P w = .ok (.agg vs.toArray) w := by
  have := run_loadVar_mid (P := P) w g o ty vs d (fun j v hj => by rw [h.cell]; exact hv j v hj) hu hd hi
  simp only [Instr.loadAt, Instr.sureAddr, Sem.run_bind, Sem.run_pure, Result.andThen_ok, this]
theorem quiet_row2 {P : Program} {R : World → Prop} {K : Act → Prop} {a : Act} {o : Oper} (ty : TypeId) (x : Operand) (ho : o.op = .load ty x) {g q : Nat} {cs : Array Value} (hx : a.eval x = .pointer (some ⟨g, q, none⟩))
    (hl : ∀ y : Later R, (Instr.loadAt ty (.pointer (some ⟨g, q, none⟩))).run P y.w = .ok (.agg cs) y.w) (hk : K (a.put o.dst (.agg cs))) : o.quiet P a (fun w' => ∃ y : Later R, w' = y.w) K :=
  ⟨_, fun w hw => by
    obtain ⟨y, rfl⟩ := hw
    unfold Oper.quietAt execOp
    simp only [ho, hx, Sem.run_bind, hl y, Result.andThen_ok]
    exact ⟨rfl, rfl⟩, hk⟩
end Go.Proofs.Ytfnibpkojhgflaa
