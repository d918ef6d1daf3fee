/- Plain: bounds of what may be; a face's bytes. -/
import Derived.Test.YtfnibpkojhgflaaFaceBytes0
import Derived.Test.YtfnibpkojhgflaaKeyPlain
namespace Go.Proofs.Ytfnibpkojhgflaa
set_option linter.unusedVariables false
set_option linter.unusedSimpArgs false
open Go.RowKit

theorem mayName_len {s : ByteArray} (h : mayName s = true) : s.size ≤ 15 := by
  unfold mayName at h; rw [Bool.and_eq_true, decide_eq_true_eq] at h; exact h.2.2
theorem impsOk_names (nm : ByteArray) (l : List Imp) : ∀ seen : List ByteArray, impsOk nm seen l = true → ∀ x ∈ l, mayName x.name = true := by
  induction l with
  | nil => intro _ _ x hx; cases hx
  | cons y r ih =>
    intro seen h x hx
    unfold impsOk at h
    simp only [Bool.and_eq_true] at h
    rcases List.mem_cons.1 hx with rfl | hx
    · exact h.1.1.1
    · exact ih _ h.2 x hx
theorem fieldsOk_names (e : Env) (l : List Fld) : ∀ seen : List ByteArray, fieldsOk e seen l = true → ∀ x ∈ l, fieldOk e x = true := by
  induction l with
  | nil => intro _ _ x hx; cases hx
  | cons y r ih =>
    intro seen h x hx
    unfold fieldsOk at h
    simp only [Bool.and_eq_true] at h
    rcases List.mem_cons.1 hx with rfl | hx
    · exact h.1.1
    · exact ih _ h.2 x hx
theorem objsOk_all (e : Env) (l : List ODD) : ∀ seen : List ODD, objsOk e seen l = true → ∀ x ∈ l, mayObjB e x = true := by
  induction l with
  | nil => intro _ _ x hx; cases hx
  | cons y r ih =>
    intro seen h x hx
    unfold objsOk at h
    simp only [Bool.and_eq_true] at h
    rcases List.mem_cons.1 hx with rfl | hx
    · exact h.1.1
    · exact ih _ h.2 x hx
theorem mf_split {f : FD} (h : mayFace f = true) : mayImps f.name f.imps = true ∧ (f.types.length ≤ 200 ∧ f.objs.length ≤ 900) ∧ (∀ t ∈ f.types, mayTypeB f.env t = true) ∧ objsOk f.env [] f.objs = true := by
  unfold mayFace at h
  simp only [Bool.and_eq_true, decide_eq_true_eq, List.all_eq_true] at h
  exact ⟨h.1.1.1, h.1.1.2, h.1.2, h.2⟩
theorem imps_split {nm : ByteArray} {l : List Imp} (h : mayImps nm l = true) : impsOk nm [] l = true ∧ mayName nm = true ∧ l.length ≤ 12 := by
  unfold mayImps at h
  simp only [Bool.and_eq_true, decide_eq_true_eq] at h
  exact ⟨h.1.1, h.1.2, h.2⟩
theorem type_fields {e : Env} {t : TD} (h : mayTypeB e t = true) : t.fields.length ≤ 100 ∧ ∀ y ∈ t.fields, fieldOk e y = true := by
  unfold mayTypeB at h
  split at h
  · simp only [Bool.and_eq_true, decide_eq_true_eq] at h
    exact ⟨h.2.2, fieldsOk_names e _ _ h.1⟩
  · have h0 : t.fields.length = 0 := by
      split at h
      · simp only [Bool.and_eq_true, decide_eq_true_eq] at h; exact h.1.2
      · split at h
        · simp only [Bool.and_eq_true, decide_eq_true_eq] at h; exact h.1.2.2
        · cases h
    exact ⟨by omega, fun y hy => by rw [List.length_eq_zero_iff.1 h0] at hy; cases hy⟩
theorem obj_params {e : Env} {o : ODD} (h : mayObjB e o = true) : mayName o.name = true ∧ o.params.length ≤ 12 := by
  unfold mayObjB at h
  rw [Bool.and_eq_true] at h
  refine ⟨h.1, ?_⟩
  have h := h.2
  split at h
  · simp only [Bool.and_eq_true, decide_eq_true_eq] at h; exact h.1.1.2.2
  · rw [Bool.and_eq_true, decide_eq_true_eq] at h; omega
theorem field_name {e : Env} {y : Fld} (h : fieldOk e y = true) : mayName y.name = true := by
  unfold fieldOk at h; simp only [Bool.and_eq_true] at h; exact h.1.1
theorem small_of {f : Fc} (h : mayFace f.d = true) : SmallF f := by
  obtain ⟨h1, ⟨h2, h3⟩, h4, h5⟩ := mf_split h
  obtain ⟨k1, k2, k3⟩ := imps_split h1
  have h4 : ∀ x ∈ f.types.l, mayTypeB f.d.env x.d = true := fun x hx => h4 _ (List.mem_map_of_mem hx)
  have h5 : ∀ x ∈ f.objs.l, mayObjB f.d.env x.d = true := fun x hx => objsOk_all _ _ _ h5 _ (List.mem_map_of_mem hx)
  refine ⟨mayName_len k2, k3, fun x hx => mayName_len (impsOk_names _ _ _ k1 x hx), ?_, fun x hx => (type_fields (h4 x hx)).1, fun x hx y hy => mayName_len (field_name ((type_fields (h4 x hx)).2 y hy)), ?_, fun x hx => mayName_len (obj_params (h5 x hx)).1, fun x hx => (obj_params (h5 x hx)).2⟩
  · have : (f.types.l.map FT.d).length ≤ 200 := h2
    rwa [List.length_map] at this
  · have : (f.objs.l.map FO.d).length ≤ 900 := h3
    rwa [List.length_map] at this

def bytesF (f : FD) : List Int := [83, 49] ++ (nameB f.name ++ (wordB (Key.of (restF f)) ++ restF f))
def outF (f : FD) : List Int := if mayFace f then bytesF f else []
def keyF (f : FD) : Int := if mayFace f then Key.of (restF f) else 0
def errF (f : FD) : Int := if mayFace f then 0 else 2

theorem len_flatF {α : Type} (f : α → List Int) (c : Nat) (l : List α) (h : ∀ x ∈ l, (f x).length ≤ c) : (l.flatMap f).length ≤ c * l.length := by
  induction l with
  | nil => exact Nat.zero_le _
  | cons x r ih =>
    rw [List.flatMap_cons, List.length_append, List.length_cons, Nat.mul_succ]
    have h1 := h x (List.mem_cons_self ..)
    have h2 := ih (fun y hy => h y (List.mem_cons_of_mem _ hy))
    omega
theorem rest_len {f : Fc} (h : SmallF f) : (restF f.d).length ≤ 900000 := by
  have h1 : (f.imps.l.flatMap impF).length ≤ 20 * f.imps.l.length := len_flatF _ _ _ (fun x hx => by unfold impF; rw [List.length_append, nameB_len, wordB_len]; have := h.imps x hx; omega)
  have h2 : ((f.types.l.map FT.d).flatMap typF).length ≤ 2300 * (f.types.l.map FT.d).length := len_flatF _ _ _ (fun y hy => by
    obtain ⟨x, hx, rfl⟩ := List.mem_map.1 hy
    have k1 := h.fields x hx
    have k2 : (x.fields.l.flatMap fldF).length ≤ 22 * x.fields.l.length := len_flatF _ _ _ (fun y hy => by unfold fldF refB2; simp only [List.length_append, nameB_len, wordB_len, List.length_cons, List.length_nil]; have := h.names x hx y hy; omega)
    have k3 : (typHead x.d).length ≤ 8 := by unfold typHead; (repeat' split) <;> simp [wordB_len]
    have k4 : (if x.d.form = 2 then x.d.fields.flatMap fldF else refB2 x.d.base).length ≤ 2200 := by
      split
      · exact Nat.le_trans k2 (by omega)
      · unfold refB2; simp
    unfold typF
    simp only [List.length_append, List.length_cons, List.length_nil]
    omega)
  have h3 : ((f.objs.l.map FO.d).flatMap objF).length ≤ 100 * (f.objs.l.map FO.d).length := len_flatF _ _ _ (fun y hy => by
    obtain ⟨x, hx, rfl⟩ := List.mem_map.1 hy
    have k1 := h.params x hx
    have k2 : (x.params.l.flatMap prmF).length ≤ 3 * x.params.l.length := len_flatF _ _ _ (fun y hy => by unfold prmF refB2; simp)
    have k3 : (objTail x.d).length ≤ 38 := by
      unfold objTail
      (repeat' split)
      · rw [wordB_len]; omega
      · rw [List.length_append]; have : (x.d.params.flatMap prmF).length ≤ 36 := Nat.le_trans k2 (by omega); simp only [List.length_cons, List.length_nil]; omega
      · simp
    have k4 := h.onames x hx
    unfold objF refB2
    simp only [List.length_append, List.length_cons, List.length_nil]
    rw [nameB_len]
    have : x.d.name.size ≤ 15 := k4
    omega)
  have e : restF f.d = [(f.imps.l.length : Int) % 256] ++ (f.imps.l.flatMap impF ++ ([((f.types.l.map FT.d).length : Int) % 256] ++ ((f.types.l.map FT.d).flatMap typF ++ (wordB ((f.objs.l.map FO.d).length) ++ (f.objs.l.map FO.d).flatMap objF)))) := rfl
  rw [e]
  simp only [List.length_append, List.length_cons, List.length_nil, wordB_len]
  rw [List.length_map] at h2 h3
  have := h.nimps
  have := h.ntypes
  have := h.nobjs
  omega

end Go.Proofs.Ytfnibpkojhgflaa
