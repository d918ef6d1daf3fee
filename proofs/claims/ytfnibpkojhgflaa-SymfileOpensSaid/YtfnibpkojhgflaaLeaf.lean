/- An argument that is a struct by value, arrays and structs in it: its cells, one by one, each with its own reading. Over whatever program. -/
import Derived.Test.YtfnibpkojhgflaaOpen
namespace Go.Proofs.Ytfnibpkojhgflaa
set_option linter.unusedVariables false
set_option linter.unusedSimpArgs false
open Go.ChangeShapes Go.WideShapes Go.ChangeAt Go.RowKit

section
variable {H : Type} {enc : TypeId × Value → H} {P : Program} {w : World} {base : Nat} {spare : Nat → Bool} {held : Bool}

/-- the types of a type's cells, in order. -/
def leaves (P : Program) : Nat → TypeId → Option (List TypeId)
  | 0, _ => none
  | n + 1, t => match P.underlying t with
    | some (.struct fs) => fs.toList.foldlM (fun acc f => if f.offset = acc.length then (leaves P n f.type).bind fun l => if P.cellsOf f.type = l.length then some (acc ++ l) else none else none) [] |>.bind fun ts => if P.cellsOf t = ts.length then some ts else none
    | some (.array m e) => (leaves P n e).bind fun l => if P.cellsOf e = l.length ∧ P.cellsOf t = m * l.length then some ((List.replicate m l).flatten) else none
    | some _ => some [t]
    | none => none

/-- each cell has its reading. -/
def LeafAt (enc : TypeId × Value → H) (P : Program) (w : World) (base : Nat) (spare : Nat → Bool) (held : Bool) (cs : List Value) (ts : List TypeId) : Prop :=
  cs.length = ts.length ∧ ∀ (i : Nat) (t : TypeId), ts[i]? = some t → ∃ v y m, cs[i]? = some v ∧ DataW.trod enc P w base spare held m t [v] = some y

theorem LeafAt.append {a b : List Value} {s t : List TypeId} (h : LeafAt enc P w base spare held a s) (k : LeafAt enc P w base spare held b t) : LeafAt enc P w base spare held (a ++ b) (s ++ t) := by
  refine ⟨by rw [List.length_append, List.length_append, h.1, k.1], fun i u hi => ?_⟩
  by_cases hl : i < s.length
  · rw [List.getElem?_append_left hl] at hi
    obtain ⟨v, y, m, h1, h2⟩ := h.2 i u hi
    exact ⟨v, y, m, by rw [List.getElem?_append_left (by rw [h.1]; exact hl)]; exact h1, h2⟩
  · rw [List.getElem?_append_right (by omega)] at hi
    obtain ⟨v, y, m, h1, h2⟩ := k.2 _ u hi
    exact ⟨v, y, m, by rw [List.getElem?_append_right (by rw [h.1]; omega), h.1]; exact h1, h2⟩

theorem leaf_one {fuel : Nat} {t : TypeId} {cs : List Value} {x : DataW H × List MemPlace} {d : TypeDesc} (hd : P.underlying t = some d) (h1 : ∀ fs, d ≠ .struct fs) (h2 : ∀ n e, d ≠ .array n e) (h : DataW.trod enc P w base spare held fuel t cs = some x) : LeafAt enc P w base spare held cs [t] := by
  have hl : cs.length = 1 := by
    cases fuel with
    | zero => simp [DataW.trod] at h
    | succ m =>
      unfold DataW.trod at h
      rw [hd] at h
      split at h <;> first | rfl | (rename_i heq; exact absurd (Option.some.inj heq) (h1 _)) | (rename_i heq; exact absurd (Option.some.inj heq) (h2 _ _)) | (simp at h; done) | (simp_all; done)
  refine ⟨by simpa using hl, fun i u hi => ?_⟩
  obtain ⟨v, rfl⟩ := List.length_eq_one_iff.1 hl
  cases i with
  | zero => simp at hi; subst hi; exact ⟨v, x, fuel, rfl, h⟩
  | succ i => simp at hi

theorem leaf_struct {n : Nat} (ih : ∀ (t : TypeId) (fuel : Nat) (cs : List Value) (x : DataW H × List MemPlace) (ts : List TypeId), leaves P n t = some ts → DataW.trod enc P w base spare held fuel t cs = some x → LeafAt enc P w base spare held cs ts) (cs : List Value) (m : Nat) :
    ∀ (fs : List Field) (acc ts : List TypeId), (∀ f ∈ fs, ∃ y, DataW.trod enc P w base spare held m f.type ((cs.drop f.offset).take (P.cellsOf f.type)) = some y) → acc.length ≤ cs.length →
    fs.foldlM (fun acc f => if f.offset = acc.length then (leaves P n f.type).bind fun l => if P.cellsOf f.type = l.length then some (acc ++ l) else none else none) acc = some ts → LeafAt enc P w base spare held (cs.take acc.length) acc →
    ts.length ≤ cs.length ∧ LeafAt enc P w base spare held (cs.take ts.length) ts
  | [], acc, ts, _, hle, h, ha => by
    simp at h
    subst h
    exact ⟨hle, ha⟩
  | f :: fs, acc, ts, hf, hle, h, ha => by
    rw [List.foldlM_cons] at h
    split at h
    · rename_i hoff
      cases hl : leaves P n f.type with
      | none => rw [hl] at h; simp at h
      | some l =>
        rw [hl] at h
        simp only [Option.bind_some] at h
        split at h
        · rename_i hc
          simp only [Option.bind_eq_bind, Option.bind_some] at h
          obtain ⟨y, hy⟩ := hf f (List.mem_cons_self ..)
          have hlf := ih _ _ _ _ _ hl hy
          have hlen := hlf.1
          rw [List.length_take, List.length_drop, hoff, hc] at hlen
          have e : cs.take (acc ++ l).length = cs.take acc.length ++ (cs.drop acc.length).take l.length := by
            rw [List.length_append, List.take_add]
          refine leaf_struct ih cs m fs (acc ++ l) ts (fun g hg => hf g (List.mem_cons_of_mem _ hg)) (by rw [List.length_append]; omega) h ?_
          rw [e]
          refine ha.append ?_
          rw [hoff, hc] at hlf
          exact hlf
        · simp at h
    · simp at h

theorem leaf_cells : ∀ (n : Nat) (t : TypeId) (fuel : Nat) (cs : List Value) (x : DataW H × List MemPlace) (ts : List TypeId), leaves P n t = some ts → DataW.trod enc P w base spare held fuel t cs = some x → LeafAt enc P w base spare held cs ts
  | 0, _, _, _, _, _, h, _ => by simp [leaves] at h
  | n + 1, t, fuel, cs, x, ts, h, hx => by
    unfold leaves at h
    cases hd : P.underlying t with
    | none => rw [hd] at h; simp at h
    | some d =>
      rw [hd] at h
      cases d with
      | struct fs =>
        simp only [Option.bind_eq_some_iff] at h
        obtain ⟨ts', h1, h2⟩ := h
        split at h2
        · rename_i hcl
          cases h2
          obtain ⟨ys, m, _, _, hlen, hyl, hf⟩ := DataW.trod_struct hd hx
          have key := leaf_struct (leaf_cells n) cs m fs.toList [] ts (fun f hf' => by
            obtain ⟨j, hj⟩ := List.mem_iff_getElem?.1 hf'
            have hj' : fs[j]? = some f := by simpa using hj
            have := hf j f hj'
            have hjl : j < ys.length := by rw [hyl]; exact (Array.getElem?_eq_some_iff.1 hj').1
            rw [List.getElem?_eq_getElem hjl] at this
            exact ⟨_, this⟩) (Nat.zero_le _) h1 ⟨rfl, fun i u hi => by simp at hi⟩
          have := key.2
          rwa [List.take_of_length_le (by omega)] at this
        · cases h2
      | array m e =>
        simp only [Option.bind_eq_some_iff] at h
        obtain ⟨l, h1, h2⟩ := h
        split at h2
        · rename_i hcl
          cases h2
          obtain ⟨xs, k, _, _, hlen, hxl, hf⟩ := DataW.trod_array hd hx
          have key : ∀ j, j ≤ m → LeafAt enc P w base spare held (cs.take (j * l.length)) ((List.replicate j l).flatten) := by
            intro j
            induction j with
            | zero => intro _; exact ⟨by simp, fun i u hi => by simp at hi⟩
            | succ j ihj =>
              intro hj
              have e1 : (List.replicate (j + 1) l).flatten = (List.replicate j l).flatten ++ l := by rw [List.replicate_succ', List.flatten_append]; simp
              have e2 : cs.take ((j + 1) * l.length) = cs.take (j * l.length) ++ (cs.drop (j * l.length)).take l.length := by
                rw [Nat.add_mul, Nat.one_mul, List.take_add]
              rw [e1, e2]
              refine (ihj (by omega)).append ?_
              have h3 := hf j (by omega)
              rw [List.getElem?_eq_getElem (by omega), hcl.1] at h3
              exact leaf_cells n _ _ _ _ _ h1 h3
          have := key m (Nat.le_refl _)
          rwa [List.take_of_length_le (by omega)] at this
        · cases h2
      | _ =>
        simp at h
        subst h
        exact leaf_one hd (by intro fs; simp) (by intro n e; simp) hx

/-- an argument of such a type. -/
theorem open_leaves {r : Reach} {b0 n : Nat} {t : TypeId} {v : Value} {d : DataW H} {p : List MemPlace} {ts : List TypeId} (hl : leaves P n t = some ts) {fs : Array Field} (hs : P.underlying t = some (.struct fs)) (hv : Value.okWide P w r b0 t v) (h : DataW.Trod enc P w base spare held t v d p) :
    ∃ cs : List Value, v = .agg cs.toArray ∧ LeafAt enc P w base spare held cs ts := by
  obtain ⟨fuel, hf⟩ := h
  obtain ⟨cs, rfl, _⟩ := okWide_struct hs hv
  exact ⟨cs.toList, by simp, leaf_cells n t fuel _ _ ts hl hf⟩

theorem LeafAt.int {cs : List Value} {ts : List TypeId} (h : LeafAt enc P w base spare held cs ts) (i : Nat) {t : TypeId} (ht : ts[i]? = some t) {k : IntKind} (hu : P.underlying t = some (.int k)) : ∃ x : Int, cs[i]? = some (.int k x) ∧ (k.min ≤ x ∧ x ≤ k.max) := by
  obtain ⟨v, y, m, h1, h2⟩ := h.2 i t ht
  obtain ⟨x, e0, _, wa⟩ := DataW.trod_int hu h2
  simp at e0
  exact ⟨x, by rw [h1, e0], bd_of_wf wa⟩
theorem LeafAt.bool {cs : List Value} {ts : List TypeId} (h : LeafAt enc P w base spare held cs ts) (i : Nat) {t : TypeId} (ht : ts[i]? = some t) (hu : P.underlying t = some .bool) : ∃ x : Bool, cs[i]? = some (.bool x) := by
  obtain ⟨v, y, m, h1, h2⟩ := h.2 i t ht
  obtain ⟨x, e0, _⟩ := DataW.trod_bool hu h2
  simp at e0
  exact ⟨x, by rw [h1, e0]⟩

end

end Go.Proofs.Ytfnibpkojhgflaa
