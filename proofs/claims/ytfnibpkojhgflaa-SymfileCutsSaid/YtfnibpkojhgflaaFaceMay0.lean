/- Plain: objects beside each other; a bare object that may be. -/
import Derived.Test.YtfnibpkojhgflaaFaceObj
import Derived.Test.YtfnibpkojhgflaaFaceType
import Derived.Test.YtfnibpkojhgflaaLibC
import Derived.Test.YtfnibpkojhgflaaObjMay
namespace Go.Proofs.Ytfnibpkojhgflaa
set_option linter.unusedVariables false
set_option linter.unusedSimpArgs false
open Go.RowKit

theorem bare_may (nm : ByteArray) (l : List Imp) : mayObj ⟨nm, 0, l, 0, [], [0], [0], []⟩ = mayImps nm l := by
  unfold mayObj sizesOk countsOk fixesOk inN
  simp
theorem bare_rd {w1 : World} {nm : ByteArray} {s : Sl Imp} {g1 g2 : Nat} (hn : nm.size ≤ maxLen) (hs : Rows impD w1 s) (h1 : At w1 g1 #[.int .u32 0] 39) (h2 : At w1 g2 #[.int .i64 0] 3) :
    (⟨nm, 0, s, 0, Sl.none, ⟨some ⟨g1, 0, none⟩, 1, [0]⟩, ⟨some ⟨g2, 0, none⟩, 1, [0]⟩, Sl.none⟩ : Obj).Rd w1 := by
  have hm : (1 : Nat) ≤ maxLen := by unfold maxLen; omega
  refine ⟨hn, show (0 : Int) ≤ 0 ∧ (0 : Int) < 4294967296 by omega, hs, show i64In 0 by unfold i64In; omega, Rows.nil _ _, ?_, ?_, Rows.nil _ _⟩
  · refine ⟨⟨⟨g1, 0, fun _ => ⟨rfl, h1.lt⟩, fun j u hj => ?_⟩, fun h => (by cases h), Nat.le_refl _, hm⟩, fun x hx => ?_⟩
    · have hj' : ([Value.int .u32 0] : List Value)[j]? = some u := hj
      rw [Nat.zero_add]
      exact (h1.cell j).trans (by simpa using hj')
    · have hx' : x ∈ ([0] : List Int) := hx
      rw [List.mem_singleton] at hx'
      subst hx'
      exact bd_u32' ⟨by omega, by omega⟩
  · refine ⟨⟨⟨g2, 0, fun _ => ⟨rfl, h2.lt⟩, fun j u hj => ?_⟩, fun h => (by cases h), Nat.le_refl _, hm⟩, fun x hx => ?_⟩
    · have hj' : ([Value.int .i64 0] : List Value)[j]? = some u := hj
      rw [Nat.zero_add]
      exact (h2.cell j).trans (by simpa using hj')
    · have hx' : x ∈ ([0] : List Int) := hx
      rw [List.mem_singleton] at hx'
      subst hx'
      exact bd_i64' ⟨by omega, by omega⟩

/-! ### the loop over the types -/
theorem all_bad {e : Env} {l : List FT} {k : Nat} {x : FT} (hx : l[k]? = some x) (h : mayTypeB e x.d = false) : (l.map FT.d).all (mayTypeB e) = false := by
  rw [Bool.eq_false_iff]; intro ha
  rw [List.all_eq_true] at ha
  rw [ha x.d (List.mem_map.2 ⟨x, List.mem_of_getElem? hx, rfl⟩)] at h
  cases h
theorem all_good {e : Env} {l : List FT} (h : ∀ (j : Nat) (x : FT), j < l.length → l[j]? = some x → mayTypeB e x.d = true) : (l.map FT.d).all (mayTypeB e) = true := by
  rw [List.all_eq_true]
  intro t ht
  obtain ⟨x, hx, rfl⟩ := List.mem_map.1 ht
  obtain ⟨j, hj⟩ := List.mem_iff_getElem?.1 hx
  exact h j x (List.getElem?_eq_some_iff.1 hj).1 hj

/-! ### the loop over the objects -/
def ObjTo (e : Env) (l : List FO) (k : Nat) : Prop := objsOk e [] (l.map FO.d) = objsOk e ((l.take k).map FO.d) ((l.drop k).map FO.d)
theorem ObjTo.start (e : Env) (l : List FO) : ObjTo e l 0 := rfl
theorem ObjTo.eq {e : Env} {l : List FO} {k : Nat} (h : ObjTo e l k) {x : FO} (hx : l[k]? = some x) :
    objsOk e [] (l.map FO.d) = (mayObjB e x.d && !((l.take k).map FO.d).any (fun s => clash s x.d) && objsOk e ((l.take (k + 1)).map FO.d) ((l.drop (k + 1)).map FO.d)) := by
  unfold ObjTo at h
  rw [h, drop_get hx, take_get hx, List.map_append]; rfl
theorem ObjTo.next {e : Env} {l : List FO} {k : Nat} (h : ObjTo e l k) {x : FO} (hx : l[k]? = some x) (h1 : mayObjB e x.d = true) (h3 : ((l.take k).map FO.d).any (fun s => clash s x.d) = false) : ObjTo e l (k + 1) := by
  unfold ObjTo
  rw [h.eq hx, h1, h3]; rfl
theorem ObjTo.bad {e : Env} {l : List FO} {k : Nat} (h : ObjTo e l k) {x : FO} (hx : l[k]? = some x) (h1 : mayObjB e x.d = false) : objsOk e [] (l.map FO.d) = false := by rw [h.eq hx, h1]; rfl
theorem ObjTo.twice {e : Env} {l : List FO} {k : Nat} (h : ObjTo e l k) {x : FO} (hx : l[k]? = some x) (h1 : ((l.take k).map FO.d).any (fun s => clash s x.d) = true) : objsOk e [] (l.map FO.d) = false := by rw [h.eq hx, h1]; simp
theorem ObjTo.done {e : Env} {l : List FO} {k : Nat} (h : ObjTo e l k) (hk : l.length ≤ k) : objsOk e [] (l.map FO.d) = true := by
  unfold ObjTo at h
  rw [h, List.drop_of_length_le hk]; rfl

def NamesTo (l : List FO) (k : Nat) (z : Lit) : Prop := ∃ (j : Nat) (x : FO), j < k ∧ l[j]? = some x ∧ z = .string x.name.data.toList
def ProcsTo (l : List FO) (k : Nat) (z : Lit) : Prop := ∃ (j : Nat) (x : FO), j < k ∧ l[j]? = some x ∧ x.cls = 4 ∧ z = .int .u32 x.value
theorem NamesTo.zero (l : List FO) (z : Lit) : ¬ NamesTo l 0 z := fun ⟨j, _, h, _⟩ => by omega
theorem ProcsTo.zero (l : List FO) (z : Lit) : ¬ ProcsTo l 0 z := fun ⟨j, _, h, _⟩ => by omega
theorem names_new {l : List FO} {k : Nat} {x : FO} (hx : l[k]? = some x) : NamesTo l (k + 1) (.string x.name.data.toList) := ⟨k, x, by omega, hx, rfl⟩
theorem names_old {l : List FO} {k : Nat} {x : FO} (hx : l[k]? = some x) (z : Lit) (hz : z ≠ .string x.name.data.toList) : NamesTo l (k + 1) z ↔ NamesTo l k z := by
  constructor
  · rintro ⟨j, y, hj, hy, e⟩
    rcases Nat.lt_or_ge j k with h | h
    · exact ⟨j, y, h, hy, e⟩
    · obtain rfl : j = k := by omega
      rw [hx] at hy
      obtain rfl := Option.some.inj hy
      exact absurd e hz
  · rintro ⟨j, y, hj, hy, e⟩
    exact ⟨j, y, by omega, hy, e⟩
theorem procs_new {l : List FO} {k : Nat} {x : FO} (hx : l[k]? = some x) (h : x.cls = 4) : ProcsTo l (k + 1) (.int .u32 x.value) := ⟨k, x, by omega, hx, h, rfl⟩
theorem procs_old {l : List FO} {k : Nat} {x : FO} (hx : l[k]? = some x) (z : Lit) (hz : x.cls ≠ 4 ∨ z ≠ .int .u32 x.value) : ProcsTo l (k + 1) z ↔ ProcsTo l k z := by
  constructor
  · rintro ⟨j, y, hj, hy, e, e2⟩
    rcases Nat.lt_or_ge j k with h | h
    · exact ⟨j, y, h, hy, e, e2⟩
    · obtain rfl : j = k := by omega
      rw [hx] at hy
      obtain rfl := Option.some.inj hy
      rcases hz with h | h
      · exact absurd e h
      · exact absurd e2 h
  · rintro ⟨j, y, hj, hy, e⟩
    exact ⟨j, y, by omega, hy, e⟩
theorem clash_iff {l : List FO} {k : Nat} {x : FO} : ((l.take k).map FO.d).any (fun s => clash s x.d) = true ↔ NamesTo l k (.string x.name.data.toList) ∨ x.cls = 4 ∧ ProcsTo l k (.int .u32 x.value) := by
  rw [List.any_map, List.any_eq_true]
  constructor
  · rintro ⟨y, hy, h⟩
    obtain ⟨j, hj⟩ := List.mem_iff_getElem?.1 hy
    rw [List.getElem?_take] at hj
    split at hj
    · have h' : clash y.d x.d = true := h
      unfold clash at h'
      rcases of_decide_eq_true h' with h1 | ⟨h1, h2, h3⟩
      · exact .inl ⟨j, y, by assumption, hj, by rw [show y.name = x.name from h1]⟩
      · exact .inr ⟨h2, j, y, by assumption, hj, h1, by rw [show y.value = x.value from h3]⟩
    · cases hj
  · rintro (⟨j, y, hj, hy, e⟩ | ⟨h4, j, y, hj, hy, h1, e⟩)
    · refine ⟨y, List.mem_iff_getElem?.2 ⟨j, by rw [List.getElem?_take, if_pos hj]; exact hy⟩, ?_⟩
      show clash y.d x.d = true
      have e' : x.name = y.name := ByteArray.ext (Array.toList_inj.1 (by injection e))
      exact decide_eq_true (.inl e'.symm)
    · refine ⟨y, List.mem_iff_getElem?.2 ⟨j, by rw [List.getElem?_take, if_pos hj]; exact hy⟩, ?_⟩
      show clash y.d x.d = true
      have e' : x.value = y.value := by injection e
      exact decide_eq_true (.inr ⟨h1, h4, e'.symm⟩)

def sizesF (f : FD) : Prop := f.types.length ≤ 200 ∧ f.objs.length ≤ 900
theorem mf_imps {f : FD} (h : mayImps f.name f.imps = false) : mayFace f = false := by unfold mayFace; rw [h]; rfl
theorem mf_sizes {f : FD} (h : ¬ (f.types.length ≤ 200 ∧ f.objs.length ≤ 900)) : mayFace f = false := by unfold mayFace; rw [decide_eq_false h]; simp
theorem mf_types {f : FD} (h : f.types.all (mayTypeB f.env) = false) : mayFace f = false := by unfold mayFace; rw [h]; simp
theorem mf_objs {f : FD} (h : objsOk f.env [] f.objs = false) : mayFace f = false := by unfold mayFace; rw [h]; simp
theorem mf_yes {f : FD} (h1 : mayImps f.name f.imps = true) (h2 : f.types.length ≤ 200 ∧ f.objs.length ≤ 900) (h3 : f.types.all (mayTypeB f.env) = true) (h4 : objsOk f.env [] f.objs = true) : mayFace f = true := by unfold mayFace; rw [h1, decide_eq_true h2, h3, h4]; rfl
end Go.Proofs.Ytfnibpkojhgflaa
