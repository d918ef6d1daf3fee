/- Plain: an object that may be. No program in sight. -/
import Derived.Test.YtfnibpkojhgflaaObjBytes
namespace Go.Proofs.Ytfnibpkojhgflaa
set_option linter.unusedVariables false
set_option linter.unusedSimpArgs false

/-- what an object is, wherever it lies. -/
structure OD where
  name : ByteArray
  key : Int
  imps : List Imp
  vars : Int
  text : List Int
  code : List Int
  entries : List Int
  fixups : List Fix
def Obj.d (o : Obj) : OD := ⟨o.name, o.key, o.imps.l, o.vars, o.text.l, o.code.l, o.entries.l, o.fixups.l⟩

def inN (n : Nat) (x : Int) : Bool := decide (0 ≤ x ∧ x < n)
def before (p : Option Int) (x : Int) : Bool := match p with
  | none => true
  | some y => decide (y < x)
def fixOk (n m : Nat) (p : Option Int) (f : Fix) : Bool :=
  decide (0 ≤ f.place ∧ f.place < n ∧ 0 ≤ f.entry ∧ f.entry ≤ 200 ∧ 0 ≤ f.mod ∧ f.mod ≤ m ∧ ¬ (f.entry = 0 ∧ f.place = n - 1) ∧ ¬ (0 < f.entry ∧ f.mod = 0) ∧ before p f.place = true)
def fixesOk (n m : Nat) : Option Int → List Fix → Bool
  | _, [] => true
  | p, f :: r => fixOk n m p f && fixesOk n m (some f.place) r
def sizesOk (o : OD) : Bool := decide (0 ≤ o.vars ∧ o.vars ≤ 262144 ∧ o.vars % 4 = 0 ∧ o.text.length ≤ 8192 ∧ (o.text.length : Int) % 4 = 0 ∧ o.vars + o.text.length ≤ 262144)
def countsOk (o : OD) : Bool := decide (o.code.length ≤ 16384 ∧ 1 ≤ o.entries.length ∧ o.entries.length ≤ 201 ∧ o.fixups.length ≤ 8192)
def mayObj (o : OD) : Bool := mayImps o.name o.imps && sizesOk o && countsOk o && o.entries.all (inN o.code.length) && fixesOk o.code.length o.imps.length none o.fixups

theorem may_imps {o : OD} (h : mayImps o.name o.imps = false) : mayObj o = false := by unfold mayObj; rw [h]; rfl
theorem may_sizes {o : OD} (h : sizesOk o = false) : mayObj o = false := by unfold mayObj; rw [h]; simp
theorem may_counts {o : OD} (h : countsOk o = false) : mayObj o = false := by unfold mayObj; rw [h]; simp
theorem may_entry {o : OD} {i : Nat} {x : Int} (hx : o.entries[i]? = some x) (h : inN o.code.length x = false) : mayObj o = false := by
  have : o.entries.all (inN o.code.length) = false := by
    rw [Bool.eq_false_iff]
    intro ha
    rw [List.all_eq_true] at ha
    rw [ha x (List.mem_of_getElem? hx)] at h
    cases h
  unfold mayObj; rw [this]; simp

/-- the place before the k-th fixup. -/
def prevF (l : List Fix) (k : Nat) : Option Int := if k = 0 then none else (l[k - 1]?).map Fix.place
def FixTo (n m : Nat) (l : List Fix) (k : Nat) : Prop := fixesOk n m none l = fixesOk n m (prevF l k) (l.drop k)
theorem FixTo.start (n m : Nat) (l : List Fix) : FixTo n m l 0 := rfl
theorem FixTo.eq {n m : Nat} {l : List Fix} {k : Nat} (h : FixTo n m l k) {f : Fix} (hf : l[k]? = some f) : fixesOk n m none l = (fixOk n m (prevF l k) f && fixesOk n m (prevF l (k + 1)) (l.drop (k + 1))) := by
  unfold FixTo at h
  rw [h, drop_get hf]
  have : prevF l (k + 1) = some f.place := by unfold prevF; rw [if_neg (by omega), Nat.add_sub_cancel, hf]; rfl
  rw [this]; rfl
theorem FixTo.next {n m : Nat} {l : List Fix} {k : Nat} (h : FixTo n m l k) {f : Fix} (hf : l[k]? = some f) (h1 : fixOk n m (prevF l k) f = true) : FixTo n m l (k + 1) := by
  unfold FixTo
  rw [h.eq hf, h1]; rfl
theorem FixTo.bad {n m : Nat} {l : List Fix} {k : Nat} (h : FixTo n m l k) {f : Fix} (hf : l[k]? = some f) (h1 : fixOk n m (prevF l k) f = false) : fixesOk n m none l = false := by rw [h.eq hf, h1]; rfl
theorem FixTo.done {n m : Nat} {l : List Fix} {k : Nat} (h : FixTo n m l k) (hk : l.length ≤ k) : fixesOk n m none l = true := by
  unfold FixTo at h
  rw [h, List.drop_of_length_le hk]; rfl
theorem may_fixups {o : OD} (h : fixesOk o.code.length o.imps.length Option.none o.fixups = false) : mayObj o = false := by unfold mayObj; rw [h, Bool.and_false]
theorem may_yes {o : OD} (h1 : mayImps o.name o.imps = true) (h2 : sizesOk o = true) (h3 : countsOk o = true) (h4 : ∀ (i : Nat) (x : Int), o.entries[i]? = some x → inN o.code.length x = true) (h5 : fixesOk o.code.length o.imps.length none o.fixups = true) : mayObj o = true := by
  have : o.entries.all (inN o.code.length) = true := by
    rw [List.all_eq_true]
    intro x hx
    obtain ⟨i, hi⟩ := List.mem_iff_getElem?.1 hx
    exact h4 i x hi
  unfold mayObj; rw [h1, h2, h3, this, h5]; rfl
theorem fix_no {n m : Nat} {p : Option Int} {f : Fix} (h : ¬ (0 ≤ f.place ∧ f.place < n ∧ 0 ≤ f.entry ∧ f.entry ≤ 200 ∧ 0 ≤ f.mod ∧ f.mod ≤ m ∧ ¬ (f.entry = 0 ∧ f.place = n - 1) ∧ ¬ (0 < f.entry ∧ f.mod = 0) ∧ before p f.place = true)) : fixOk n m p f = false := decide_eq_false h
theorem fix_yes {n m : Nat} {p : Option Int} {f : Fix} (h : 0 ≤ f.place ∧ f.place < n ∧ 0 ≤ f.entry ∧ f.entry ≤ 200 ∧ 0 ≤ f.mod ∧ f.mod ≤ m ∧ ¬ (f.entry = 0 ∧ f.place = n - 1) ∧ ¬ (0 < f.entry ∧ f.mod = 0) ∧ before p f.place = true) : fixOk n m p f = true := decide_eq_true h

def muchB (o : OD) : Bool := decide (40 < o.imps.length ∨ 20000 < o.text.length ∨ 20000 < o.code.length ∨ 400 < o.entries.length ∨ 10000 < o.fixups.length)
end Go.Proofs.Ytfnibpkojhgflaa
