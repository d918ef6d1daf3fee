/- Plain: a face's bytes behind its key. What the walk of 'rest' carries on. -/
import Derived.Test.YtfnibpkojhgflaaFaceAdd
import Derived.Test.YtfnibpkojhgflaaFaceMay0
namespace Go.Proofs.Ytfnibpkojhgflaa
set_option linter.unusedVariables false
set_option linter.unusedSimpArgs false
open Go.RowKit

def impF (x : Imp) : List Int := nameB x.name ++ wordB x.key
def fldF (x : Fld) : List Int := nameB x.name ++ (wordB x.off ++ refB2 x.base)
def typHead (t : TD) : List Int := if t.form = 2 then wordB t.size ++ [(t.fields.length : Int) % 256] else if t.form = 1 then wordB t.len ++ wordB t.size else []
def typF (t : TD) : List Int := [t.form % 256] ++ (typHead t ++ (if t.form = 2 then t.fields.flatMap fldF else refB2 t.base))
def prmF (p : Prm) : List Int := [if p.var then 1 else 0] ++ refB2 p.base
def objTail (o : ODD) : List Int := if o.cls = 1 ∨ o.cls = 3 then wordB o.value else if o.cls = 4 then [o.value % 256, (o.params.length : Int) % 256] ++ o.params.flatMap prmF else []
def objF (o : ODD) : List Int := ([o.cls % 256] ++ (nameB o.name ++ refB2 o.base)) ++ objTail o
def restF (f : FD) : List Int := [(f.imps.length : Int) % 256] ++ (f.imps.flatMap impF ++ ([(f.types.length : Int) % 256] ++ (f.types.flatMap typF ++ (wordB f.objs.length ++ f.objs.flatMap objF))))

theorem take_flatF {α : Type} {l : List α} {k : Nat} {x : α} (h : l[k]? = some x) (f : α → List Int) : (l.take (k + 1)).flatMap f = (l.take k).flatMap f ++ f x := by
  rw [take_get h, List.flatMap_append]; simp
theorem take_allF {α : Type} {l : List α} (f : α → List Int) : (l.take l.length).flatMap f = l.flatMap f := by rw [List.take_length]

/-- bounds of what may be. -/
structure SmallF (f : Fc) : Prop where
  name : f.name.size ≤ 15
  nimps : f.imps.l.length ≤ 12
  imps : ∀ x ∈ f.imps.l, x.name.size ≤ 15
  ntypes : f.types.l.length ≤ 200
  fields : ∀ x ∈ f.types.l, x.fields.l.length ≤ 100
  names : ∀ x ∈ f.types.l, ∀ y ∈ x.fields.l, y.name.size ≤ 15
  nobjs : f.objs.l.length ≤ 900
  onames : ∀ x ∈ f.objs.l, x.name.size ≤ 15
  params : ∀ x ∈ f.objs.l, x.params.l.length ≤ 12

/-- the bytes so far beside the face. -/
structure RS (w0 w : World) (gf g n : Nat) (FC : Array Value) (l : List Int) : Prop where
  acc : AccN w0 w g n l
  face : At w gf FC 26
  lt : gf < g
  lo : w0.heap.size ≤ gf
variable {w0 w w' : World} {gf g n n' : Nat} {FC : Array Value} {l m : List Int}
theorem RS.on (h : RS w0 w gf g n FC l) (k : Below w.heap.size w w') : RS w0 w' gf g n FC l := ⟨h.acc.on k, h.face.bel k, h.lt, h.lo⟩
theorem RS.add (h : RS w0 w gf g n FC l) (k : Adds w0 w g l m w') : RS w0 w' gf g (n + m.length) FC (l ++ m) := ⟨h.acc.add k, k.at h.face (by decide) (Nat.ne_of_lt h.lt), h.lt, h.lo⟩
theorem RS.more (h : RS w0 w gf g n FC l) (hn : n ≤ n') : RS w0 w gf g n' FC l := ⟨h.acc.more hn, h.face, h.lt, h.lo⟩
theorem RS.bel (h : RS w0 w gf g n FC l) : Below w0.heap.size w0 w := h.acc.acc.bel
theorem RS.glt (h : RS w0 w gf g n FC l) : g < w.heap.size := by obtain ⟨v, h1, _⟩ := h.acc.acc.box; exact h1.lt

/-- bytes were added: the bytes so far; every struct's block is as it was. -/
def Stp (w0 w : World) (gf g n : Nat) (FC : Array Value) (l m : List Int) (w' : World) : Prop :=
  RS w0 w' gf g (n + m.length) FC (l ++ m) ∧ (∀ (h : Nat) (cs : Array Value) (t : TypeId), At w h cs t → 5 ≠ t → h ≠ g → At w' h cs t) ∧ ∀ G : Nat → Prop, (∀ i, ¬ G i → i ≠ g ∧ (i < w0.heap.size ∨ ∃ cs t, At w i cs t ∧ 5 ≠ t)) → Ke G w w'
theorem Stp.of (h : RS w0 w gf g n FC l) (k : Adds w0 w g l m w') : Stp w0 w gf g n FC l m w' := ⟨h.add k, fun _ _ _ ha ht hg => k.at ha ht hg, fun G hG => k.keK hG⟩
theorem add_of1 (h : RS w0 w gf g n FC l) {a1 : Option Addr} {n1 c1 : Nat} {l1 : List Int} (h1 : RdI .u8 w a1 c1 l1) (e1 : l1.length = n1) (hs : n1 ≤ 1000) (hn : n ≤ 3000000) :
    Calls Try.prog 62 #[.slice (some ⟨w.heap.size, 0, none⟩) 1 1, .pointer (some ⟨g, 0, none⟩)] (w.alloc (.cells #[.slice a1 n1 c1] 46)) fun e w' => e = .returned (.tuple #[]) ∧ Stp w0 (w.alloc (.cells #[.slice a1 n1 c1] 46)) gf g n FC l l1 w' :=
  (add1 (h.on (bel1 w _)).acc (At.new w _ _) (h1.below (bel1 w _) (Nat.le_refl _)) e1 hs hn).mono fun e w' ⟨q1, q2⟩ => ⟨q1, Stp.of (h.on (bel1 w _)) q2⟩
theorem add_of2 (h : RS w0 w gf g n FC l) {a1 a2 : Option Addr} {n1 c1 n2 c2 : Nat} {l1 l2 : List Int} (h1 : RdI .u8 w a1 c1 l1) (h2 : RdI .u8 w a2 c2 l2) (e1 : l1.length = n1) (e2 : l2.length = n2) (hs : n1 + n2 ≤ 1000) (hn : n ≤ 3000000) :
    Calls Try.prog 62 #[.slice (some ⟨w.heap.size, 0, none⟩) 2 2, .pointer (some ⟨g, 0, none⟩)] (w.alloc (.cells #[.slice a1 n1 c1, .slice a2 n2 c2] 46)) fun e w' => e = .returned (.tuple #[]) ∧ Stp w0 (w.alloc (.cells #[.slice a1 n1 c1, .slice a2 n2 c2] 46)) gf g n FC l (l1 ++ l2) w' :=
  (add2 (h.on (bel1 w _)).acc (At.new w _ _) (h1.below (bel1 w _) (Nat.le_refl _)) (h2.below (bel1 w _) (Nat.le_refl _)) e1 e2 hs hn).mono fun e w' ⟨q1, q2⟩ => ⟨q1, Stp.of (h.on (bel1 w _)) q2⟩
theorem add_of3 (h : RS w0 w gf g n FC l) {a1 a2 a3 : Option Addr} {n1 c1 n2 c2 n3 c3 : Nat} {l1 l2 l3 : List Int} (h1 : RdI .u8 w a1 c1 l1) (h2 : RdI .u8 w a2 c2 l2) (h3 : RdI .u8 w a3 c3 l3) (e1 : l1.length = n1) (e2 : l2.length = n2) (e3 : l3.length = n3) (hs : n1 + n2 + n3 ≤ 1000) (hn : n ≤ 3000000) :
    Calls Try.prog 62 #[.slice (some ⟨w.heap.size, 0, none⟩) 3 3, .pointer (some ⟨g, 0, none⟩)] (w.alloc (.cells #[.slice a1 n1 c1, .slice a2 n2 c2, .slice a3 n3 c3] 46)) fun e w' => e = .returned (.tuple #[]) ∧ Stp w0 (w.alloc (.cells #[.slice a1 n1 c1, .slice a2 n2 c2, .slice a3 n3 c3] 46)) gf g n FC l (l1 ++ (l2 ++ l3)) w' :=
  (add3 (h.on (bel1 w _)).acc (At.new w _ _) (h1.below (bel1 w _) (Nat.le_refl _)) (h2.below (bel1 w _) (Nat.le_refl _)) (h3.below (bel1 w _) (Nat.le_refl _)) e1 e2 e3 hs hn).mono fun e w' ⟨q1, q2⟩ => ⟨q1, Stp.of (h.on (bel1 w _)) q2⟩
/-- a literal of bytes, and it alone. -/
theorem add_lit1 (h : RS w0 w gf g n FC l) (l1 : List Int) (hb : ∀ x ∈ l1, isByte x) (n1 : Nat) (e1 : l1.length = n1) (hs : n1 ≤ 1000) (hn : n ≤ 3000000) :
    Calls Try.prog 62 #[.slice (some ⟨w.heap.size + 1, 0, none⟩) 1 1, .pointer (some ⟨g, 0, none⟩)] ((w.alloc (.cells (l1.map (Value.int .u8)).toArray 5)).alloc (.cells #[.slice (some ⟨w.heap.size, 0, none⟩) n1 n1] 46)) fun e w' => e = .returned (.tuple #[]) ∧ Stp w0 w gf g n FC l l1 w' := by
  subst e1
  have h1 := rd_lit8 w l1 hb hs
  have := add_of1 (h.on (bel1 w (.cells (l1.map (Value.int .u8)).toArray 5))) h1 rfl hs hn
  rw [show (w.alloc (.cells (l1.map (Value.int .u8)).toArray 5)).heap.size = w.heap.size + 1 by simp] at this
  refine this.mono fun e w' ⟨q1, q2, q3, q4⟩ => ⟨q1, q2, fun x cs t ha ht hg => q3 x cs t (ha.bel (bel2 w _ _)) ht hg, fun G hG => (Ke.below G (bel2 w _ _)).trans (q4 G (fun i hi => ⟨(hG i hi).1, ?_⟩))⟩
  rcases (hG i hi).2 with q | ⟨cs, t, q5, q6⟩
  · exact .inl q
  · exact .inr ⟨cs, t, q5.bel (bel2 w _ _), q6⟩
theorem one_byte (x : Int) : ∀ y ∈ [x % 256], isByte y := fun y hy => by obtain rfl := List.mem_singleton.1 hy; exact ⟨by omega, by omega⟩
theorem two_bytes (x z : Int) : ∀ y ∈ [x % 256, z % 256], isByte y := fun y hy => by
  simp only [List.mem_cons, List.not_mem_nil, or_false] at hy
  rcases hy with rfl | rfl <;> exact ⟨by omega, by omega⟩
theorem RS.start {l2 : List Int} (w : World) (FC : Array Value) (x : Int) :
    RS w (((w.alloc (.cells FC 26)).alloc (.cells #[.int .u8 (x % 256)] 5)).alloc (.cells #[.slice (some ⟨w.heap.size + 1, 0, none⟩) 1 1] 46)) w.heap.size (w.heap.size + 2) 1 FC [x % 256] := by
  have hA := At.new ((w.alloc (.cells FC 26)).alloc (.cells #[.int .u8 (x % 256)] 5)) #[.slice (some ⟨w.heap.size + 1, 0, none⟩) 1 1] 46
  rw [show ((w.alloc (.cells FC 26)).alloc (.cells #[.int .u8 (x % 256)] 5)).heap.size = w.heap.size + 2 by simp] at hA
  have hO := own_lit8 (w.alloc (.cells FC 26)) [x % 256] (show 1 ≤ 1000 by decide) (B := w.heap.size) (by simp)
  rw [show (w.alloc (.cells FC 26)).heap.size = w.heap.size + 1 by simp] at hO
  exact ⟨⟨⟨by omega, bel3 w _ _ _, ⟨_, hA, ownsRow_bel hO (bel1 _ _)⟩, one_byte x⟩, Nat.le_refl _⟩, ((At.new w FC 26).old _).old _, by omega, Nat.le_refl _⟩

/-- a struct within a struct: its load, in every world of a segment. -/
theorem At.loads2 {P : Program} {w : World} {g o : Nat} {cs : Array Value} {t : TypeId} (h : At w g cs t) (vs : List Value) (hv : ∀ (j : Nat) (v : Value), vs[j]? = some v → cs[o + j]? = some v) {ty : TypeId} {d : TypeDesc} (hu : P.underlying ty = some d) (hd : d.isRow = true) (hi : (P.info? ty).map (·.size) = some vs.length) :
    (Instr.loadAt ty (.pointer (some ⟨g, o, none⟩))).run P w = .ok (.agg vs.toArray) w := by
  have := run_loadVar_mid (P := P) w g o ty vs d (fun j v hj => by rw [h.cell]; exact hv j v hj) hu hd hi
  simp only [Instr.loadAt, Instr.sureAddr, Sem.run_bind, Sem.run_pure, Result.andThen_ok, this]
theorem quiet_row2 {P : Program} {R : World → Prop} {K : Act → Prop} {a : Act} {o : Oper} (ty : TypeId) (x : Operand) (ho : o.op = .load ty x) {g q : Nat} {cs : Array Value} (hx : a.eval x = .pointer (some ⟨g, q, none⟩))
    (hl : ∀ y : Later R, (Instr.loadAt ty (.pointer (some ⟨g, q, none⟩))).run P y.w = .ok (.agg cs) y.w) (hk : K (a.put o.dst (.agg cs))) : o.quiet P a (fun w' => ∃ y : Later R, w' = y.w) K :=
  ⟨_, fun w hw => by
    obtain ⟨y, rfl⟩ := hw
    unfold Oper.quietAt execOp
    simp only [ho, hx, Sem.run_bind, hl y, Result.andThen_ok]
    exact ⟨rfl, rfl⟩, hk⟩
end Go.Proofs.Ytfnibpkojhgflaa
