/- Imports, fixups, objects: their cells; the plain words on them. -/
import Derived.Test.YtfnibpkojhgflaaObjNames
import Derived.Test.YtfnibpkojhgflaaDat
namespace Go.Proofs.Ytfnibpkojhgflaa
set_option linter.unusedVariables false
set_option linter.unusedSimpArgs false
open Go.RowKit

structure Imp where
  name : ByteArray
  key : Int
def Imp.cells (x : Imp) : List Value := [.string x.name, .int .u32 x.key]
def impD : Dat Imp := ⟨2, Imp.cells, fun _ x => x.name.size ≤ maxLen ∧ 0 ≤ x.key ∧ x.key < 4294967296, by decide, fun _ => rfl, fun h _ _ => h⟩

structure Fix where
  place : Int
  mod : Int
  entry : Int
def i64In (x : Int) : Prop := -9223372036854775808 ≤ x ∧ x ≤ 9223372036854775807
def Fix.cells (x : Fix) : List Value := [.int .i64 x.place, .int .i64 x.mod, .int .i64 x.entry]
def fixD : Dat Fix := ⟨3, Fix.cells, fun _ x => i64In x.place ∧ i64In x.mod ∧ i64In x.entry, by decide, fun _ => rfl, fun h _ _ => h⟩

structure Obj where
  name : ByteArray
  key : Int
  imps : Sl Imp
  vars : Int
  text : Sl Int
  code : Sl Int
  entries : Sl Int
  fixups : Sl Fix
def Obj.cells (o : Obj) : Array Value := #[.string o.name, .int .u32 o.key, o.imps.val, .int .i64 o.vars, o.text.val, o.code.val, o.entries.val, o.fixups.val]
def Obj.val (o : Obj) : Value := .agg o.cells
structure Obj.Rd (w : World) (o : Obj) : Prop where
  name : o.name.size ≤ maxLen
  key : 0 ≤ o.key ∧ o.key < 4294967296
  imps : Rows impD w o.imps
  vars : i64In o.vars
  text : Rows (intD .u8) w o.text
  code : Rows (intD .u32) w o.code
  entries : Rows (intD .i64) w o.entries
  fixups : Rows fixD w o.fixups
theorem Obj.Rd.below {w w' : World} {o : Obj} {B : Nat} (h : o.Rd w) (hb : Below B w w') (hB : w.heap.size ≤ B) : o.Rd w' :=
  ⟨h.name, h.key, h.imps.below hb hB, h.vars, h.text.below hb hB, h.code.below hb hB, h.entries.below hb hB, h.fixups.below hb hB⟩
theorem Obj.Rd.bel {w w' : World} {o : Obj} (h : o.Rd w) (hb : Below w.heap.size w w') : o.Rd w' := h.below hb (Nat.le_refl _)

/-- imports that may be, behind names that were seen. -/
def impsOk (name : ByteArray) : List ByteArray → List Imp → Bool
  | _, [] => true
  | seen, x :: r => mayName x.name && !decide (x.name = name) && !seen.any (fun s => decide (s = x.name)) && impsOk name (seen ++ [x.name]) r
def mayImps (name : ByteArray) (l : List Imp) : Bool := impsOk name [] l && mayName name && decide (l.length ≤ 12)

/-- the loop over the imports stands at a place. -/
def ImpTo (name : ByteArray) (l : List Imp) (k : Nat) : Prop := impsOk name [] l = impsOk name ((l.take k).map Imp.name) (l.drop k)
theorem ImpTo.start (name : ByteArray) (l : List Imp) : ImpTo name l 0 := rfl
theorem drop_get {α : Type} {l : List α} {k : Nat} {x : α} (h : l[k]? = some x) : l.drop k = x :: l.drop (k + 1) := by
  obtain ⟨hk, rfl⟩ := List.getElem?_eq_some_iff.1 h
  exact List.drop_eq_getElem_cons hk
theorem take_get {α : Type} {l : List α} {k : Nat} {x : α} (h : l[k]? = some x) : l.take (k + 1) = l.take k ++ [x] := by
  obtain ⟨hk, rfl⟩ := List.getElem?_eq_some_iff.1 h
  exact List.take_succ_eq_append_getElem hk
theorem ImpTo.eq {name : ByteArray} {l : List Imp} {k : Nat} (h : ImpTo name l k) {x : Imp} (hx : l[k]? = some x) :
    impsOk name [] l = (mayName x.name && !decide (x.name = name) && !((l.take k).map Imp.name).any (fun s => decide (s = x.name)) && impsOk name ((l.take (k + 1)).map Imp.name) (l.drop (k + 1))) := by
  unfold ImpTo at h
  rw [h, drop_get hx, take_get hx, List.map_append]; rfl
/-- one of the first names is a name. -/
theorem seen_iff {l : List Imp} {k : Nat} {s : ByteArray} : ((l.take k).map Imp.name).any (fun x => decide (x = s)) = true ↔ ∃ j x, j < k ∧ l[j]? = some x ∧ x.name = s := by
  rw [List.any_map, List.any_eq_true]
  constructor
  · rintro ⟨x, hx, h⟩
    obtain ⟨j, hj⟩ := List.mem_iff_getElem?.1 hx
    rw [List.getElem?_take] at hj
    split at hj
    · exact ⟨j, x, by assumption, hj, by simpa using h⟩
    · cases hj
  · rintro ⟨j, x, hj, hx, rfl⟩
    refine ⟨x, List.mem_iff_getElem?.2 ⟨j, ?_⟩, by simp⟩
    rw [List.getElem?_take, if_pos hj]; exact hx
theorem ImpTo.next {name : ByteArray} {l : List Imp} {k : Nat} (h : ImpTo name l k) {x : Imp} (hx : l[k]? = some x) (h1 : mayName x.name = true) (h2 : x.name ≠ name) (h3 : ∀ j y, j < k → l[j]? = some y → y.name ≠ x.name) : ImpTo name l (k + 1) := by
  unfold ImpTo
  have h4 : ((l.take k).map Imp.name).any (fun s => decide (s = x.name)) = false := Bool.eq_false_iff.2 (fun hm => by obtain ⟨j, y, hj, hy, e⟩ := seen_iff.1 hm; exact h3 j y hj hy e)
  rw [h.eq hx, h1, decide_eq_false h2, h4]; simp
theorem ImpTo.bad1 {name : ByteArray} {l : List Imp} {k : Nat} (h : ImpTo name l k) {x : Imp} (hx : l[k]? = some x) (h1 : mayName x.name = false) : mayImps name l = false := by
  unfold mayImps; rw [h.eq hx, h1]; simp
theorem ImpTo.bad2 {name : ByteArray} {l : List Imp} {k : Nat} (h : ImpTo name l k) {x : Imp} (hx : l[k]? = some x) (h1 : x.name = name) : mayImps name l = false := by
  unfold mayImps; rw [h.eq hx, decide_eq_true h1]; simp
theorem ImpTo.bad3 {name : ByteArray} {l : List Imp} {k : Nat} (h : ImpTo name l k) {x : Imp} (hx : l[k]? = some x) {j : Nat} {y : Imp} (hj : j < k) (hy : l[j]? = some y) (h1 : y.name = x.name) : mayImps name l = false := by
  unfold mayImps; rw [h.eq hx, seen_iff.2 ⟨j, y, hj, hy, h1⟩]; simp
theorem ImpTo.done {name : ByteArray} {l : List Imp} {k : Nat} (h : ImpTo name l k) (hk : l.length ≤ k) : mayImps name l = (mayName name && decide (l.length ≤ 12)) := by
  unfold ImpTo at h
  unfold mayImps; rw [h, List.drop_of_length_le hk]; simp [impsOk]

theorem imp_cells {w : World} {b o : Nat} {l : List Imp} (h : RowAt impD w b o l) {i : Nat} {x : Imp} (hx : l[i]? = some x) : w.cell? ⟨b, o + i * 2, none⟩ = some (.string x.name) ∧ w.cell? ⟨b, o + i * 2 + 1, none⟩ = some (.int .u32 x.key) :=
  ⟨h i x hx 0 _ rfl, h i x hx 1 _ rfl⟩

end Go.Proofs.Ytfnibpkojhgflaa
