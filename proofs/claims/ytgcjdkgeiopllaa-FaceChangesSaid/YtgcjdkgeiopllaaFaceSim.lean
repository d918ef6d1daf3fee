/- Plain: two faces show the same. -/
import Derived.Test.YtgcjdkgeiopllaaFaceA
namespace Go.Proofs.Ytgcjdkgeiopllaa
set_option linter.unusedVariables false
set_option linter.unusedSimpArgs false
open Go.RowKit

/-- two references mean the same, if own types that T tells do. -/
def onceP (a b : FD) (T : Nat → Nat → Prop) (r s : Rf) : Prop :=
  (0 < r.mod ∧ 0 < s.mod ∧ r.idx = s.idx ∧ a.imps[(r.mod - 1).toNat]? = b.imps[(s.mod - 1).toNat]?) ∨
  (r.mod = 0 ∧ s.mod = 0 ∧ r.idx < 16 ∧ s.idx < 16 ∧ r.idx = s.idx) ∨
  (r.mod = 0 ∧ s.mod = 0 ∧ 16 ≤ r.idx ∧ 16 ≤ s.idx ∧ T (r.idx - 16).toNat (s.idx - 16).toNat)
def bodyP (a b : FD) (T : Nat → Nat → Prop) (x y : TD) : Prop :=
  if x.form = 2 then x.fields.length = y.fields.length ∧ ∀ (k : Nat) (f g : Fld), x.fields[k]? = some f → y.fields[k]? = some g → f.name = g.name ∧ f.off = g.off ∧ onceP a b T f.base g.base
  else onceP a b T x.base y.base
def formsP (a b : FD) (T : Nat → Nat → Prop) (x y : TD) : Prop := x.form = y.form ∧ x.len = y.len ∧ x.size = y.size ∧ bodyP a b T x y
def localP (a b : FD) (T : Nat → Nat → Prop) (i j : Nat) : Prop := ∃ x y, a.types[i]? = some x ∧ b.types[j]? = some y ∧ formsP a b T x y
/-- own types that unfold alike. -/
def Alike (a b : FD) (i j : Nat) : Prop := ∃ T : Nat → Nat → Prop, T i j ∧ ∀ i j, T i j → localP a b T i j
def sameO (a b : FD) (o q : ODD) : Prop :=
  o.cls = q.cls ∧ o.value = q.value ∧ onceP a b (Alike a b) o.base q.base ∧ o.params.length = q.params.length ∧ ∀ (k : Nat) (p p' : Prm), o.params[k]? = some p → q.params[k]? = some p' → p.var = p'.var ∧ onceP a b (Alike a b) p.base p'.base
def showsP (a b : FD) : Prop := mayFace a = true ∧ mayFace b = true ∧ a.name = b.name ∧ a.objs.length = b.objs.length ∧ ∀ o ∈ a.objs, ∃ q ∈ b.objs, q.name = o.name ∧ sameO a b o q

variable {a b c : FD} {T T' : Nat → Nat → Prop}
theorem once_mono (h : ∀ i j, T i j → T' i j) {r s : Rf} (k : onceP a b T r s) : onceP a b T' r s := by
  rcases k with k | k | ⟨k1, k2, k3, k4, k5⟩
  · exact .inl k
  · exact .inr (.inl k)
  · exact .inr (.inr ⟨k1, k2, k3, k4, h _ _ k5⟩)
theorem body_mono (h : ∀ i j, T i j → T' i j) {x y : TD} (k : bodyP a b T x y) : bodyP a b T' x y := by
  unfold bodyP at *
  split
  · rename_i hf
    rw [if_pos hf] at k
    exact ⟨k.1, fun q f g hf' hg => ⟨(k.2 q f g hf' hg).1, (k.2 q f g hf' hg).2.1, once_mono h (k.2 q f g hf' hg).2.2⟩⟩
  · rename_i hf
    rw [if_neg hf] at k
    exact once_mono h k
theorem forms_mono (h : ∀ i j, T i j → T' i j) {x y : TD} (k : formsP a b T x y) : formsP a b T' x y := ⟨k.1, k.2.1, k.2.2.1, body_mono h k.2.2.2⟩
theorem local_mono (h : ∀ i j, T i j → T' i j) {i j : Nat} (k : localP a b T i j) : localP a b T' i j := by
  obtain ⟨x, y, h1, h2, h3⟩ := k
  exact ⟨x, y, h1, h2, forms_mono h h3⟩
theorem alike_local {i j : Nat} (h : Alike a b i j) : localP a b (Alike a b) i j := by
  obtain ⟨T, h1, h2⟩ := h
  exact local_mono (fun i j h => ⟨T, h, h2⟩) (h2 i j h1)
theorem alike_of (h : ∀ i j, T i j → localP a b T i j) {i j : Nat} (k : T i j) : Alike a b i j := ⟨T, k, h⟩
theorem once_alike (h : ∀ i j, T i j → localP a b T i j) {r s : Rf} (k : onceP a b T r s) : onceP a b (Alike a b) r s := once_mono (fun _ _ q => alike_of h q) k

/-! ### to itself; the other way round; one behind the other -/
theorem once_refl (himp : ∀ i : Nat, a.imps[i]? = b.imps[i]?) {r : Rf} (h0 : 0 ≤ r.mod) (hT : ∀ i, T i i) : onceP a b T r r := by
  by_cases h : 0 < r.mod
  · exact .inl ⟨h, h, rfl, himp _⟩
  · by_cases h2 : r.idx < 16
    · exact .inr (.inl ⟨by omega, by omega, h2, h2, rfl⟩)
    · exact .inr (.inr ⟨by omega, by omega, by omega, by omega, hT _⟩)
theorem once_symm {r s : Rf} (h : onceP a b T r s) : onceP b a (fun i j => T j i) s r := by
  rcases h with ⟨h1, h2, h3, h4⟩ | ⟨h1, h2, h3, h4, h5⟩ | ⟨h1, h2, h3, h4, h5⟩
  · exact .inl ⟨h2, h1, h3.symm, h4.symm⟩
  · exact .inr (.inl ⟨h2, h1, h4, h3, h5.symm⟩)
  · exact .inr (.inr ⟨h2, h1, h4, h3, h5⟩)
theorem forms_symm {x y : TD} (h : formsP a b T x y) : formsP b a (fun i j => T j i) y x := by
  obtain ⟨h1, h2, h3, h4⟩ := h
  refine ⟨h1.symm, h2.symm, h3.symm, ?_⟩
  unfold bodyP at *
  rw [← h1]
  split
  · rename_i hf
    rw [if_pos hf] at h4
    exact ⟨h4.1.symm, fun k f g hf' hg => by obtain ⟨q1, q2, q3⟩ := h4.2 k g f hg hf'; exact ⟨q1.symm, q2.symm, once_symm q3⟩⟩
  · rename_i hf
    rw [if_neg hf] at h4
    exact once_symm h4
theorem alike_symm {i j : Nat} (h : Alike a b i j) : Alike b a j i := by
  obtain ⟨T, h1, h2⟩ := h
  refine ⟨fun i j => T j i, h1, fun i j h => ?_⟩
  obtain ⟨x, y, k1, k2, k3⟩ := h2 j i h
  exact ⟨y, x, k2, k1, forms_symm k3⟩
theorem once_alike_symm {r s : Rf} (h : onceP a b (Alike a b) r s) : onceP b a (Alike b a) s r := once_mono (fun _ _ h => alike_symm h) (once_symm h)
def compT (T : Nat → Nat → Prop) (U : Nat → Nat → Prop) (i k : Nat) : Prop := ∃ j, T i j ∧ U j k
theorem once_trans {U : Nat → Nat → Prop} {r s t : Rf} (h : onceP a b T r s) (k : onceP b c U s t) : onceP a c (compT T U) r t := by
  rcases h with ⟨h1, h2, h3, h4⟩ | ⟨h1, h2, h3, h4, h5⟩ | ⟨h1, h2, h3, h4, h5⟩
  · rcases k with ⟨k1, k2, k3, k4⟩ | ⟨k1, _⟩ | ⟨k1, _⟩
    · exact .inl ⟨h1, k2, h3.trans k3, h4.trans k4⟩
    · omega
    · omega
  · rcases k with ⟨k1, _⟩ | ⟨k1, k2, k3, k4, k5⟩ | ⟨k1, k2, k3, _⟩
    · omega
    · exact .inr (.inl ⟨h1, k2, h3, k4, h5.trans k5⟩)
    · omega
  · rcases k with ⟨k1, _⟩ | ⟨k1, k2, k3, k4, k5⟩ | ⟨k1, k2, k3, k4, k5⟩
    · omega
    · omega
    · exact .inr (.inr ⟨h1, k2, h3, k4, _, h5, k5⟩)
theorem get_of_len {α β : Type} {l : List α} {m : List β} (h : l.length = m.length) {k : Nat} {x : α} (hx : l[k]? = some x) : ∃ y, m[k]? = some y := by
  have := (List.getElem?_eq_some_iff.1 hx).1
  exact ⟨_, List.getElem?_eq_getElem (by omega)⟩
theorem forms_trans {U : Nat → Nat → Prop} {x y z : TD} (h : formsP a b T x y) (k : formsP b c U y z) : formsP a c (compT T U) x z := by
  obtain ⟨h1, h2, h3, h4⟩ := h
  obtain ⟨k1, k2, k3, k4⟩ := k
  refine ⟨h1.trans k1, h2.trans k2, h3.trans k3, ?_⟩
  unfold bodyP at *
  rw [← h1] at k4
  split
  · rename_i hf
    rw [if_pos hf] at h4 k4
    refine ⟨h4.1.trans k4.1, fun q f g hf' hg => ?_⟩
    obtain ⟨m, hm⟩ := get_of_len h4.1 hf'
    obtain ⟨p1, p2, p3⟩ := h4.2 q f m hf' hm
    obtain ⟨q1, q2, q3⟩ := k4.2 q m g hm hg
    exact ⟨p1.trans q1, p2.trans q2, once_trans p3 q3⟩
  · rename_i hf
    rw [if_neg hf] at h4 k4
    exact once_trans h4 k4
theorem alike_trans {i j k : Nat} (h : Alike a b i j) (h' : Alike b c j k) : Alike a c i k := by
  obtain ⟨T, h1, h2⟩ := h
  obtain ⟨U, k1, k2⟩ := h'
  refine ⟨compT T U, ⟨j, h1, k1⟩, ?_⟩
  rintro i k ⟨j, q1, q2⟩
  obtain ⟨x, y, p1, p2, p3⟩ := h2 i j q1
  obtain ⟨y', z, r1, r2, r3⟩ := k2 j k q2
  rw [p2] at r1
  obtain rfl := Option.some.inj r1
  exact ⟨x, z, p1, r2, forms_trans p3 r3⟩
theorem once_alike_trans {r s t : Rf} (h : onceP a b (Alike a b) r s) (k : onceP b c (Alike b c) s t) : onceP a c (Alike a c) r t :=
  once_mono (fun _ _ ⟨_, h1, h2⟩ => alike_trans h1 h2) (once_trans h k)
theorem sameO_symm {o q : ODD} (h : sameO a b o q) : sameO b a q o := by
  obtain ⟨h1, h2, h3, h4, h5⟩ := h
  exact ⟨h1.symm, h2.symm, once_alike_symm h3, h4.symm, fun k p p' hp hp' => by obtain ⟨q1, q2⟩ := h5 k p' p hp' hp; exact ⟨q1.symm, once_alike_symm q2⟩⟩
theorem sameO_trans {o q t : ODD} (h : sameO a b o q) (h' : sameO b c q t) : sameO a c o t := by
  obtain ⟨h1, h2, h3, h4, h5⟩ := h
  obtain ⟨k1, k2, k3, k4, k5⟩ := h'
  refine ⟨h1.trans k1, h2.trans k2, once_alike_trans h3 k3, h4.trans k4, fun k p p' hp hp' => ?_⟩
  obtain ⟨m, hm⟩ := get_of_len h4 hp
  obtain ⟨q1, q2⟩ := h5 k p m hp hm
  obtain ⟨r1, r2⟩ := k5 k m p' hm hp'
  exact ⟨q1.trans r1, once_alike_trans q2 r2⟩

/-! ### objects have names of their own -/
theorem objs_apart {e : Env} : ∀ (l : List ODD) (seen : List ODD), objsOk e seen l = true → (l.map ODD.name).Nodup ∧ ∀ o ∈ l, ∀ s ∈ seen, s.name ≠ o.name
  | [], _, _ => ⟨List.nodup_nil, fun o h => by cases h⟩
  | x :: r, seen, h => by
    unfold objsOk at h
    simp only [Bool.and_eq_true] at h
    obtain ⟨⟨_, h2⟩, h3⟩ := h
    obtain ⟨k1, k2⟩ := objs_apart r (seen ++ [x]) h3
    have hx : ∀ s ∈ seen, s.name ≠ x.name := fun s hs e => by
      rw [Bool.not_eq_true', List.any_eq_false] at h2
      exact h2 s hs (decide_eq_true (.inl e))
    refine ⟨List.nodup_cons.2 ⟨fun hm => ?_, k1⟩, fun o ho s hs => ?_⟩
    · obtain ⟨o, ho, he⟩ := List.mem_map.1 hm
      exact k2 o ho x (List.mem_append_right _ (List.mem_singleton.2 rfl)) he.symm
    · rcases List.mem_cons.1 ho with rfl | ho
      · exact hx s hs
      · exact k2 o ho s (List.mem_append_left _ hs)
theorem may_parts {f : FD} (h : mayFace f = true) : objsOk f.env [] f.objs = true := by
  unfold mayFace at h
  simp only [Bool.and_eq_true] at h
  exact h.2
theorem may_nodup {f : FD} (h : mayFace f = true) : (f.objs.map ODD.name).Nodup := (objs_apart _ _ (may_parts h)).1
theorem nodup_inj {l : List ODD} (h : (l.map ODD.name).Nodup) : ∀ o ∈ l, ∀ q ∈ l, o.name = q.name → o = q := by
  induction l with
  | nil => intro o ho; cases ho
  | cons x r ih =>
    rw [List.map_cons, List.nodup_cons] at h
    obtain ⟨hn, hr⟩ := h
    intro o ho q hq e
    rcases List.mem_cons.1 ho with h1 | h1
    · rcases List.mem_cons.1 hq with h2 | h2
      · rw [h1, h2]
      · exact (hn (List.mem_map.2 ⟨q, h2, by rw [← e, h1]⟩)).elim
    · rcases List.mem_cons.1 hq with h2 | h2
      · exact (hn (List.mem_map.2 ⟨o, h1, by rw [e, h2]⟩)).elim
      · exact ih hr o h1 q h2 e
/-- as many names, all of the one among the other's, each once: all of the other's. -/
theorem names_all {α : Type} [DecidableEq α] : ∀ (l m : List α), l.Nodup → (∀ x ∈ l, x ∈ m) → m.length ≤ l.length → ∀ y ∈ m, y ∈ l := by
  intro l
  induction l with
  | nil => intro m _ _ h y hy; have h0 : m = [] := List.length_eq_zero_iff.1 (by simpa using h); rw [h0] at hy; cases hy
  | cons x r ih =>
    intro m hn hs hl y hy
    rw [List.nodup_cons] at hn
    by_cases e : y = x
    · rw [e]; exact List.mem_cons_self ..
    · refine List.mem_cons_of_mem _ (ih (m.erase x) hn.2 (fun z hz => ?_) ?_ y ((List.mem_erase_of_ne e).2 hy))
      · exact (List.mem_erase_of_ne (fun q => hn.1 (by rw [← q]; exact hz))).2 (hs z (List.mem_cons_of_mem _ hz))
      · have := List.length_erase_of_mem (hs x (List.mem_cons_self ..))
        rw [this]
        simp only [List.length_cons] at hl
        omega
theorem shows_symm (h : showsP a b) : showsP b a := by
  obtain ⟨h1, h2, h3, h4, h5⟩ := h
  refine ⟨h2, h1, h3.symm, h4.symm, fun q hq => ?_⟩
  have hm := names_all (a.objs.map ODD.name) (b.objs.map ODD.name) (may_nodup h1) (fun x hx => by
    obtain ⟨o, ho, rfl⟩ := List.mem_map.1 hx
    obtain ⟨q, hq, e, _⟩ := h5 o ho
    exact List.mem_map.2 ⟨q, hq, e⟩) (by rw [List.length_map, List.length_map]; omega) q.name (List.mem_map_of_mem hq)
  obtain ⟨o, ho, e⟩ := List.mem_map.1 hm
  obtain ⟨q', hq', e', hs⟩ := h5 o ho
  obtain rfl := nodup_inj (may_nodup h2) q' hq' q hq (e'.trans e)
  exact ⟨o, ho, e, sameO_symm hs⟩
theorem shows_trans (h : showsP a b) (k : showsP b c) : showsP a c := by
  obtain ⟨h1, h2, h3, h4, h5⟩ := h
  obtain ⟨_, k2, k3, k4, k5⟩ := k
  refine ⟨h1, k2, h3.trans k3, h4.trans k4, fun o ho => ?_⟩
  obtain ⟨q, hq, e, hs⟩ := h5 o ho
  obtain ⟨t, ht, e', hs'⟩ := k5 q hq
  exact ⟨t, ht, e'.trans e, sameO_trans hs hs'⟩
noncomputable def showsB (a b : FD) : Bool := @decide (showsP a b) (Classical.propDecidable _)
theorem showsB_iff : showsB a b = true ↔ showsP a b := by unfold showsB; exact @decide_eq_true_iff _ (Classical.propDecidable _)
theorem showsB_yes (h : showsP a b) : showsB a b = true := showsB_iff.2 h
theorem showsB_no (h : ¬ showsP a b) : showsB a b = false := by rw [Bool.eq_false_iff]; exact fun q => h (showsB_iff.1 q)
theorem showsB_symm (a b : FD) : showsB a b = showsB b a := by
  rw [Bool.eq_iff_iff, showsB_iff, showsB_iff]; exact ⟨shows_symm, shows_symm⟩
/-- what FaceThree says. -/
theorem three (a b c : FD) : ((!showsB a b || !showsB b c || showsB a c) && (!showsB a b || !showsB a c || showsB b c) && (!showsB b c || !showsB a c || showsB a b)) = true := by
  have t : ∀ x y z : FD, showsB x y = true → showsB y z = true → showsB x z = true := fun x y z h k => showsB_iff.2 (shows_trans (showsB_iff.1 h) (showsB_iff.1 k))
  have h1 := t a b c
  have h2 := t b a c
  have h3 := t a c b
  rw [showsB_symm b a] at h2
  rw [showsB_symm c b] at h3
  cases p : showsB a b <;> cases q : showsB b c <;> cases r : showsB a c <;> simp_all
end Go.Proofs.Ytgcjdkgeiopllaa
