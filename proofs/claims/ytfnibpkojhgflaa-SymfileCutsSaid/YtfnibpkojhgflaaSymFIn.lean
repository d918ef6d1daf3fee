/- Plain: a face that may be, and is read, fits into bytes. -/
import Derived.Test.YtfnibpkojhgflaaFaceCodec
namespace Go.Proofs.Ytfnibpkojhgflaa
set_option linter.unusedVariables false
set_option linter.unusedSimpArgs false
open Go.RowKit
theorem byteOf {x : Int} (h0 : 0 ≤ x) (h1 : x ≤ 255) : isByte x := ⟨h0, by omega⟩
theorem refIn_of {e : Env} {r : Rf} (he : e.ni ≤ 255) (h : refB e r = true) : refIn r := by
  unfold refB at h
  have h := of_decide_eq_true h
  unfold refP at h
  exact ⟨byteOf (by omega) (by omega), byteOf (by omega) (by omega)⟩
theorem refIn_closed {e : Env} {r : Rf} (he : e.ni ≤ 255) (h : closedB e r = true) : refIn r := by
  unfold closedB at h
  rw [Bool.and_eq_true] at h
  exact refIn_of he h.1
theorem noRef_eq {r : Rf} (h : noRef r = true) : r = ⟨0, 0⟩ := by
  unfold noRef at h
  obtain ⟨h1, h2⟩ := of_decide_eq_true h
  obtain ⟨a, b⟩ := r
  dsimp only at h1 h2
  rw [h1, h2]
theorem refIn_no {r : Rf} (h : noRef r = true) : refIn r := by rw [noRef_eq h]; exact ⟨byteOf (Int.le_refl _) (by show (0 : Int) ≤ 255; decide), byteOf (Int.le_refl _) (by show (0 : Int) ≤ 255; decide)⟩
theorem nameIn_of {s : ByteArray} (h : mayName s = true) : nameIn s := by have := mayName_len h; show (s.size : Int) ≤ 255; omega
theorem fldIn_of {e : Env} {x : Fld} (he : e.ni ≤ 255) (h : fieldOk e x = true) : fldIn x := by
  unfold fieldOk at h
  simp only [Bool.and_eq_true, decide_eq_true_eq] at h
  exact ⟨nameIn_of h.1.1, ⟨⟨h.1.2.1, by omega⟩, h.1.2.2⟩, refIn_closed he h.2⟩
theorem sizeIn_up {n : Int} (h : sizeIn n = true) : wordUp 262144 n := by
  unfold sizeIn at h
  have := of_decide_eq_true h
  exact ⟨⟨by omega, by omega⟩, this.2⟩
theorem typIn_of {e : Env} {t : TD} (he : e.ni ≤ 255) (h : mayTypeB e t = true) : typIn t := by
  have hf := type_fields h
  unfold mayTypeB at h
  by_cases h2 : t.form = 2
  · rw [if_pos h2] at h
    simp only [Bool.and_eq_true, decide_eq_true_eq] at h
    refine ⟨by rw [h2]; exact byteOf (by decide) (by decide), ?_⟩
    unfold tbIn
    rw [if_pos h2]
    exact ⟨⟨sizeIn_up h.2.1.2, byteOf (Int.natCast_nonneg _) (by show (t.fields.length : Int) ≤ 255; omega), fun x hx => fldIn_of he (hf.2 x hx)⟩, h.2.1.1.1, noRef_eq h.2.1.1.2⟩
  · rw [if_neg h2] at h
    by_cases h1 : t.form = 1
    · rw [if_pos h1] at h
      simp only [Bool.and_eq_true, decide_eq_true_eq] at h
      refine ⟨by rw [h1]; exact byteOf (by decide) (by decide), ?_⟩
      unfold tbIn
      rw [if_neg h2, if_pos h1]
      exact ⟨⟨⟨⟨by show 0 ≤ t.len; omega, by show t.len < _; omega⟩, h.1.1.1.2⟩, sizeIn_up h.1.1.2, refIn_closed he h.2⟩, List.length_eq_zero_iff.1 h.1.2⟩
    · rw [if_neg h1] at h
      by_cases h3 : t.form = 3 ∨ t.form = 4
      · rw [if_pos h3] at h
        simp only [Bool.and_eq_true, decide_eq_true_eq] at h
        refine ⟨by rcases h3 with h3 | h3 <;> rw [h3] <;> exact byteOf (by decide) (by decide), ?_⟩
        unfold tbIn
        rw [if_neg h2, if_neg h1]
        exact ⟨refIn_closed he h.2, h.1.1, h.1.2.1, List.length_eq_zero_iff.1 h.1.2.2⟩
      · rw [if_neg h3] at h; cases h
theorem objIn_of {e : Env} {o : ODD} (he : e.ni ≤ 255) (hv : 0 ≤ o.value ∧ o.value < 4294967296) (h : mayObjB e o = true) : objIn o := by
  have hp := obj_params h
  unfold mayObjB at h
  rw [Bool.and_eq_true] at h
  obtain ⟨_, h⟩ := h
  have hn := nameIn_of hp.1
  by_cases h4 : o.cls = 4
  · rw [if_pos h4] at h
    simp only [Bool.and_eq_true, decide_eq_true_eq, List.all_eq_true, Bool.or_eq_true] at h
    refine ⟨⟨by rw [h4]; exact byteOf (by decide) (by decide), hn, h.2.elim refIn_no (refIn_closed he)⟩, ?_⟩
    unfold obIn
    rw [if_neg (by omega), if_pos h4]
    exact ⟨byteOf (by show 0 ≤ o.value; omega) (by show o.value ≤ 255; omega), byteOf (Int.natCast_nonneg _) (by show (o.params.length : Int) ≤ 255; omega), fun x hx => refIn_of he (h.1.2 x hx)⟩
  · rw [if_neg h4] at h
    simp only [Bool.and_eq_true, decide_eq_true_eq] at h
    have hpar : o.params = [] := List.length_eq_zero_iff.1 h.1
    obtain ⟨_, h⟩ := h
    by_cases h1 : o.cls = 1
    · rw [if_pos h1] at h
      unfold constOk at h
      have h := of_decide_eq_true h
      refine ⟨⟨by rw [h1]; exact byteOf (by decide) (by decide), hn, byteOf (by omega) (by omega), byteOf (by omega) (by omega)⟩, ?_⟩
      unfold obIn
      rw [if_pos (.inl h1)]
      exact ⟨hv, hpar⟩
    · rw [if_neg h1] at h
      by_cases h3 : o.cls = 3
      · rw [if_pos h3] at h
        simp only [Bool.and_eq_true, decide_eq_true_eq] at h
        refine ⟨⟨by rw [h3]; exact byteOf (by decide) (by decide), hn, refIn_closed he h.2⟩, ?_⟩
        unfold obIn
        rw [if_pos (.inr h3)]
        exact ⟨hv, hpar⟩
      · rw [if_neg h3] at h
        by_cases h2 : o.cls = 2
        · rw [if_pos h2] at h
          simp only [Bool.and_eq_true, decide_eq_true_eq] at h
          refine ⟨⟨by rw [h2]; exact byteOf (by decide) (by decide), hn, refIn_closed he h.2⟩, ?_⟩
          unfold obIn
          rw [if_neg (by omega), if_neg h4]
          exact ⟨h.1, hpar⟩
        · rw [if_neg h2] at h; cases h
theorem FIn.of {f : Fc} {w : World} (h : f.Rd w) (hm : mayFace f.d = true) : FIn f.d := by
  obtain ⟨h1, ⟨h2, h3⟩, h4, h5⟩ := mf_split hm
  obtain ⟨h6, h7, h8⟩ := imps_split h1
  have he : f.d.env.ni ≤ 255 := by show f.d.imps.length ≤ 255; omega
  have a1 : (f.d.imps.length : Int) ≤ 255 := by omega
  have a2 : (f.d.types.length : Int) ≤ 255 := by omega
  have a3 : (f.d.objs.length : Int) < 4294967296 := by omega
  have a4 : (f.d.objs.length : Int) ≤ 900 := by omega
  refine ⟨nameIn_of h7, ⟨byteOf (Int.natCast_nonneg _) a1, fun x hx => ?_⟩, ⟨byteOf (Int.natCast_nonneg _) a2, fun x hx => typIn_of he (h4 x hx)⟩, ⟨⟨⟨Int.natCast_nonneg _, a3⟩, a4⟩, fun x hx => ?_⟩⟩
  · have := h.imps.all x hx
    exact ⟨nameIn_of (impsOk_names _ _ _ h6 x hx), this.2.1, this.2.2⟩
  · obtain ⟨y, hy, rfl⟩ := List.mem_map.1 hx
    exact objIn_of he (h.objs.all y hy).2.2.2.1 (objsOk_all _ _ _ h5 _ hx)
end Go.Proofs.Ytfnibpkojhgflaa
