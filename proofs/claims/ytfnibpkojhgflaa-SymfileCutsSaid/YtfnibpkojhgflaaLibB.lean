/- Several texts in one: Open, Leaf, Dat. -/
import Derived.Test.YtfnibpkojhgflaaLibA
import Derived.ProofKit
import Derived.OpenShut
import Derived.ShutString
import Derived.ChangeOld
import Derived.SizedLaws
import Derived.Deep.Matrix
import Derived.Deep.Slices
namespace Go.Proofs.Ytfnibpkojhgflaa

section
open Go.ChangeShapes Go.WideShapes Go.ChangeAt Go.RowKit

/-- cells behind an address that was read. -/
theorem row_of_cells {w : World} {a : Addr} {cs : List Value} (h : ∀ (i : Nat) (u : Value), cs[i]? = some u → w.cell? (a.add i) = some u) :
    ∃ b o, (0 < cs.length → some a = some ⟨b, o, none⟩ ∧ b < w.heap.size) ∧ ∀ (j : Nat) (u : Value), cs[j]? = some u → w.cell? ⟨b, o + j, none⟩ = some u := by
  obtain ⟨b, o, sp⟩ := a
  refine ⟨b, o, fun h0 => ?_, fun j u hj => ?_⟩
  · have h1 := h 0 cs[0] (by simp [h0])
    have h2 : (Addr.add ⟨b, o, sp⟩ 0) = ⟨b, o, sp⟩ := by simp [Addr.add]
    rw [h2] at h1
    have h3 := World.cell?_spot h1
    simp only at h3
    subst h3
    exact ⟨rfl, block_lt_of_cell h1⟩
  · have h1 := h j u hj
    by_cases h0 : j = 0
    · subst h0
      have h2 : (Addr.add ⟨b, o, sp⟩ 0) = ⟨b, o, sp⟩ := by simp [Addr.add]
      rw [h2] at h1
      have h3 := World.cell?_spot h1
      simp only at h3
      subst h3
      simpa using h1
    · simpa [Addr.add, h0] using h1

variable {H : Type} {enc : TypeId × Value → H} {P : Program} {W : World} {t e q : TypeId} {k : IntKind} {v : Value} {d : DataW H} {p : List MemPlace}

theorem open_rdI (ht : P.underlying t = some (.slice e)) (he : P.underlying e = some (.int k)) (hc : P.cellsOf e = 1) (hv : ∃ a n c, v = .slice a n c) (h : DataW.Trod enc P W 0 (fun _ => true) true t v d p) :
    ∃ a c l, v = .slice a l.length c ∧ RdI k W a c l := by
  obtain ⟨a, n, c, rfl⟩ := hv
  obtain ⟨fuel, hf⟩ := h
  rcases open_ints ht he hc hf with ⟨hcs, _⟩ | ⟨x, l, cp, zs, hcs, _, hl, hm, hz, _, hcell, hwz⟩
  · simp [Value.cells] at hcs
    obtain ⟨rfl, rfl, rfl⟩ := hcs
    exact ⟨none, 0, [], rfl, RdC.nilSlice W, fun x hx => by cases hx⟩
  · simp [Value.cells] at hcs
    obtain ⟨rfl, rfl, rfl⟩ := hcs
    have hz' : zs.length = c := by simpa using hz
    have hlen : (zs.take n).length = n := by rw [List.length_take]; omega
    refine ⟨some x, c, zs.take n, by rw [hlen], ⟨?_, (fun h => by cases h), by omega, hm⟩, fun y hy => bd_of_wf (hwz y (List.mem_of_mem_take hy))⟩
    refine row_of_cells fun i u hi => ?_
    rw [List.getElem?_map] at hi
    obtain ⟨y, hy, rfl⟩ := Option.map_eq_some_iff.1 hi
    rw [List.getElem?_take] at hy
    split at hy
    · have hi2 : i < zs.length := by omega
      rw [hcell i hi2, List.getD_eq_getElem?_getD, hy]; rfl
    · cases hy

theorem open_rdII (ht : P.underlying t = some (.slice e)) (he : P.underlying e = some (.slice q)) (hq : P.underlying q = some (.int k)) (ce : P.cellsOf e = 1) (cq : P.cellsOf q = 1) (hv : ∃ a n c, v = .slice a n c)
    (h : DataW.Trod enc P W 0 (fun _ => true) true t v d p) : ∃ a c ls, v = .slice a ls.length c ∧ RdII k W a c ls := by
  obtain ⟨a, n, c, rfl⟩ := hv
  obtain ⟨fuel, hf⟩ := h
  rcases Deep.open_int_rows ht he hq ce cq hf with ⟨hcs, _⟩ | ⟨x, l, cp, A, L, C, Z, hcs, _, hl, hm, _, hr⟩
  · simp [Value.cells] at hcs
    obtain ⟨rfl, rfl, rfl⟩ := hcs
    exact ⟨none, 0, [], rfl, ⟨⟨0, 0, fun h => by simp at h, fun i h => by simp at h⟩, fun _ => rfl, Nat.le_refl _, Nat.zero_le _⟩⟩
  · simp [Value.cells] at hcs
    obtain ⟨rfl, rfl, rfl⟩ := hcs
    have hrow := row_of_cells (w := W) (a := x) (cs := (List.range n).map fun r => .slice (A r) (L r) (C r)) (fun i u hi => by
      rw [List.getElem?_map] at hi
      obtain ⟨y, hy, rfl⟩ := Option.map_eq_some_iff.1 hi
      rw [List.getElem?_range] at hy
      · obtain rfl := Option.some.inj hy
        have : i < n := by
          rcases Nat.lt_or_ge i n with h | h
          · exact h
          · rw [List.getElem?_eq_none (by simpa using h)] at hi; cases hi
        exact (hr i (by omega)).1
      · rcases Nat.lt_or_ge i n with h | h
        · exact h
        · rw [List.getElem?_eq_none (by simpa using h)] at hi; cases hi)
    obtain ⟨b, o, h1, h2⟩ := hrow
    refine ⟨some x, c, (List.range n).map fun r => (Z r).take (L r), by simp, ⟨⟨b, o, fun h0 => h1 (by simpa using h0), fun i hi => ?_⟩, (fun h => by cases h), by simpa using hl, hm⟩⟩
    have hi' : i < n := by simpa using hi
    have e1 : ((List.range n).map fun r => (Z r).take (L r)).getD i [] = (Z i).take (L i) := by
      rw [List.getD_eq_getElem?_getD, List.getElem?_map, List.getElem?_range hi']; rfl
    obtain ⟨c1, c2, c3, c4, c5, c6, c7⟩ := hr i (by omega)
    have hlen : ((Z i).take (L i)).length = L i := by rw [List.length_take]; omega
    rw [e1, hlen]
    refine ⟨A i, C i, h2 i _ (by rw [List.getElem?_map, List.getElem?_range hi']; rfl), ⟨?_, fun hn => ⟨by rw [hlen]; have := c6 hn; omega, c6 hn⟩, by omega, c3⟩, fun y hy => bd_of_wf (c5 y (List.mem_of_mem_take hy))⟩
    cases hA : A i with
    | none =>
      have h0 := c6 hA
      have : (Z i).take (L i) = [] := List.length_eq_zero_iff.1 (by omega)
      rw [this]
      exact ⟨0, 0, fun h => by simp at h, fun j u hj => by simp at hj⟩
    | some y =>
      refine row_of_cells fun j u hj => ?_
      rw [List.getElem?_map] at hj
      obtain ⟨z, hz, rfl⟩ := Option.map_eq_some_iff.1 hj
      rw [List.getElem?_take] at hz
      split at hz
      · rw [(c7 y hA).2 j (by omega), List.getD_eq_getElem?_getD, hz]; rfl
      · cases hz
end

section
set_option linter.unusedVariables false
set_option linter.unusedSimpArgs false
open Go.ChangeShapes Go.WideShapes Go.ChangeAt Go.RowKit

section
variable {H : Type} {enc : TypeId × Value → H} {P : Program} {w : World} {base : Nat} {spare : Nat → Bool} {held : Bool}

/-- the types of a type's cells, in order. -/
def leaves (P : Program) : Nat → TypeId → Option (List TypeId)
  | 0, _ => none
  | n + 1, t => match P.underlying t with
    | some (.struct fs) => fs.toList.foldlM (fun acc f => if f.offset = acc.length then (leaves P n f.type).bind fun l => if P.cellsOf f.type = l.length then some (acc ++ l) else none else none) [] |>.bind fun ts => if P.cellsOf t = ts.length then some ts else none
    | some (.array m e) => (leaves P n e).bind fun l => if P.cellsOf e = l.length ∧ P.cellsOf t = m * l.length then some ((List.replicate m l).flatten) else none
    | some _ => some [t]
    | none => none

/-- each cell has its reading. -/
def LeafAt (enc : TypeId × Value → H) (P : Program) (w : World) (base : Nat) (spare : Nat → Bool) (held : Bool) (cs : List Value) (ts : List TypeId) : Prop :=
  cs.length = ts.length ∧ ∀ (i : Nat) (t : TypeId), ts[i]? = some t → ∃ v y m, cs[i]? = some v ∧ DataW.trod enc P w base spare held m t [v] = some y

theorem LeafAt.append {a b : List Value} {s t : List TypeId} (h : LeafAt enc P w base spare held a s) (k : LeafAt enc P w base spare held b t) : LeafAt enc P w base spare held (a ++ b) (s ++ t) := by
  refine ⟨by rw [List.length_append, List.length_append, h.1, k.1], fun i u hi => ?_⟩
  by_cases hl : i < s.length
  · rw [List.getElem?_append_left hl] at hi
    obtain ⟨v, y, m, h1, h2⟩ := h.2 i u hi
    exact ⟨v, y, m, by rw [List.getElem?_append_left (by rw [h.1]; exact hl)]; exact h1, h2⟩
  · rw [List.getElem?_append_right (by omega)] at hi
    obtain ⟨v, y, m, h1, h2⟩ := k.2 _ u hi
    exact ⟨v, y, m, by rw [List.getElem?_append_right (by rw [h.1]; omega), h.1]; exact h1, h2⟩

theorem leaf_one {fuel : Nat} {t : TypeId} {cs : List Value} {x : DataW H × List MemPlace} {d : TypeDesc} (hd : P.underlying t = some d) (h1 : ∀ fs, d ≠ .struct fs) (h2 : ∀ n e, d ≠ .array n e) (h : DataW.trod enc P w base spare held fuel t cs = some x) : LeafAt enc P w base spare held cs [t] := by
  have hl : cs.length = 1 := by
    cases fuel with
    | zero => simp [DataW.trod] at h
    | succ m =>
      unfold DataW.trod at h
      rw [hd] at h
      split at h <;> first | rfl | (rename_i heq; exact absurd (Option.some.inj heq) (h1 _)) | (rename_i heq; exact absurd (Option.some.inj heq) (h2 _ _)) | (simp at h; done) | (simp_all; done)
  refine ⟨by simpa using hl, fun i u hi => ?_⟩
  obtain ⟨v, rfl⟩ := List.length_eq_one_iff.1 hl
  cases i with
  | zero => simp at hi; subst hi; exact ⟨v, x, fuel, rfl, h⟩
  | succ i => simp at hi

theorem leaf_struct {n : Nat} (ih : ∀ (t : TypeId) (fuel : Nat) (cs : List Value) (x : DataW H × List MemPlace) (ts : List TypeId), leaves P n t = some ts → DataW.trod enc P w base spare held fuel t cs = some x → LeafAt enc P w base spare held cs ts) (cs : List Value) (m : Nat) :
    ∀ (fs : List Field) (acc ts : List TypeId), (∀ f ∈ fs, ∃ y, DataW.trod enc P w base spare held m f.type ((cs.drop f.offset).take (P.cellsOf f.type)) = some y) → acc.length ≤ cs.length →
    fs.foldlM (fun acc f => if f.offset = acc.length then (leaves P n f.type).bind fun l => if P.cellsOf f.type = l.length then some (acc ++ l) else none else none) acc = some ts → LeafAt enc P w base spare held (cs.take acc.length) acc →
    ts.length ≤ cs.length ∧ LeafAt enc P w base spare held (cs.take ts.length) ts
  | [], acc, ts, _, hle, h, ha => by
    simp at h
    subst h
    exact ⟨hle, ha⟩
  | f :: fs, acc, ts, hf, hle, h, ha => by
    rw [List.foldlM_cons] at h
    split at h
    · rename_i hoff
      cases hl : leaves P n f.type with
      | none => rw [hl] at h; simp at h
      | some l =>
        rw [hl] at h
        simp only [Option.bind_some] at h
        split at h
        · rename_i hc
          simp only [Option.bind_eq_bind, Option.bind_some] at h
          obtain ⟨y, hy⟩ := hf f (List.mem_cons_self ..)
          have hlf := ih _ _ _ _ _ hl hy
          have hlen := hlf.1
          rw [List.length_take, List.length_drop, hoff, hc] at hlen
          have e : cs.take (acc ++ l).length = cs.take acc.length ++ (cs.drop acc.length).take l.length := by
            rw [List.length_append, List.take_add]
          refine leaf_struct ih cs m fs (acc ++ l) ts (fun g hg => hf g (List.mem_cons_of_mem _ hg)) (by rw [List.length_append]; omega) h ?_
          rw [e]
          refine ha.append ?_
          rw [hoff, hc] at hlf
          exact hlf
        · simp at h
    · simp at h

theorem leaf_cells : ∀ (n : Nat) (t : TypeId) (fuel : Nat) (cs : List Value) (x : DataW H × List MemPlace) (ts : List TypeId), leaves P n t = some ts → DataW.trod enc P w base spare held fuel t cs = some x → LeafAt enc P w base spare held cs ts
  | 0, _, _, _, _, _, h, _ => by simp [leaves] at h
  | n + 1, t, fuel, cs, x, ts, h, hx => by
    unfold leaves at h
    cases hd : P.underlying t with
    | none => rw [hd] at h; simp at h
    | some d =>
      rw [hd] at h
      cases d with
      | struct fs =>
        simp only [Option.bind_eq_some_iff] at h
        obtain ⟨ts', h1, h2⟩ := h
        split at h2
        · rename_i hcl
          cases h2
          obtain ⟨ys, m, _, _, hlen, hyl, hf⟩ := DataW.trod_struct hd hx
          have key := leaf_struct (leaf_cells n) cs m fs.toList [] ts (fun f hf' => by
            obtain ⟨j, hj⟩ := List.mem_iff_getElem?.1 hf'
            have hj' : fs[j]? = some f := by simpa using hj
            have := hf j f hj'
            have hjl : j < ys.length := by rw [hyl]; exact (Array.getElem?_eq_some_iff.1 hj').1
            rw [List.getElem?_eq_getElem hjl] at this
            exact ⟨_, this⟩) (Nat.zero_le _) h1 ⟨rfl, fun i u hi => by simp at hi⟩
          have := key.2
          rwa [List.take_of_length_le (by omega)] at this
        · cases h2
      | array m e =>
        simp only [Option.bind_eq_some_iff] at h
        obtain ⟨l, h1, h2⟩ := h
        split at h2
        · rename_i hcl
          cases h2
          obtain ⟨xs, k, _, _, hlen, hxl, hf⟩ := DataW.trod_array hd hx
          have key : ∀ j, j ≤ m → LeafAt enc P w base spare held (cs.take (j * l.length)) ((List.replicate j l).flatten) := by
            intro j
            induction j with
            | zero => intro _; exact ⟨by simp, fun i u hi => by simp at hi⟩
            | succ j ihj =>
              intro hj
              have e1 : (List.replicate (j + 1) l).flatten = (List.replicate j l).flatten ++ l := by rw [List.replicate_succ', List.flatten_append]; simp
              have e2 : cs.take ((j + 1) * l.length) = cs.take (j * l.length) ++ (cs.drop (j * l.length)).take l.length := by
                rw [Nat.add_mul, Nat.one_mul, List.take_add]
              rw [e1, e2]
              refine (ihj (by omega)).append ?_
              have h3 := hf j (by omega)
              rw [List.getElem?_eq_getElem (by omega), hcl.1] at h3
              exact leaf_cells n _ _ _ _ _ h1 h3
          have := key m (Nat.le_refl _)
          rwa [List.take_of_length_le (by omega)] at this
        · cases h2
      | _ =>
        simp at h
        subst h
        exact leaf_one hd (by intro fs; simp) (by intro n e; simp) hx

/-- an argument of such a type. -/
theorem open_leaves {r : Reach} {b0 n : Nat} {t : TypeId} {v : Value} {d : DataW H} {p : List MemPlace} {ts : List TypeId} (hl : leaves P n t = some ts) {fs : Array Field} (hs : P.underlying t = some (.struct fs)) (hv : Value.okWide P w r b0 t v) (h : DataW.Trod enc P w base spare held t v d p) :
    ∃ cs : List Value, v = .agg cs.toArray ∧ LeafAt enc P w base spare held cs ts := by
  obtain ⟨fuel, hf⟩ := h
  obtain ⟨cs, rfl, _⟩ := okWide_struct hs hv
  exact ⟨cs.toList, by simp, leaf_cells n t fuel _ _ ts hl hf⟩

theorem LeafAt.int {cs : List Value} {ts : List TypeId} (h : LeafAt enc P w base spare held cs ts) (i : Nat) {t : TypeId} (ht : ts[i]? = some t) {k : IntKind} (hu : P.underlying t = some (.int k)) : ∃ x : Int, cs[i]? = some (.int k x) ∧ (k.min ≤ x ∧ x ≤ k.max) := by
  obtain ⟨v, y, m, h1, h2⟩ := h.2 i t ht
  obtain ⟨x, e0, _, wa⟩ := DataW.trod_int hu h2
  simp at e0
  exact ⟨x, by rw [h1, e0], bd_of_wf wa⟩
theorem LeafAt.bool {cs : List Value} {ts : List TypeId} (h : LeafAt enc P w base spare held cs ts) (i : Nat) {t : TypeId} (ht : ts[i]? = some t) (hu : P.underlying t = some .bool) : ∃ x : Bool, cs[i]? = some (.bool x) := by
  obtain ⟨v, y, m, h1, h2⟩ := h.2 i t ht
  obtain ⟨x, e0, _⟩ := DataW.trod_bool hu h2
  simp at e0
  exact ⟨x, by rw [h1, e0]⟩

end
end

section
set_option linter.unusedVariables false
set_option linter.unusedSimpArgs false
open Go.ChangeShapes Go.WideShapes Go.ChangeAt Go.RowKit

/-- a slice: where it lies, and what it holds. -/
structure Sl (α : Type) where
  a : Option Addr
  c : Nat
  l : List α

def Sl.val {α : Type} (s : Sl α) : Value := .slice s.a s.l.length s.c
def Sl.none {α : Type} : Sl α := ⟨Option.none, 0, []⟩

/-- what an element is: its cells; what it must meet in memory. -/
structure Dat (α : Type) where
  size : Nat
  cells : α → List Value
  ok : World → α → Prop
  pos : 0 < size
  len : ∀ x, (cells x).length = size
  below : ∀ {w w' : World} {x : α} {B : Nat}, ok w x → Below B w w' → w.heap.size ≤ B → ok w' x

def intD (k : IntKind) : Dat Int := ⟨1, fun x => [.int k x], fun _ x => k.min ≤ x ∧ x ≤ k.max, by decide, fun _ => rfl, fun h _ _ => h⟩
def strD : Dat ByteArray := ⟨1, fun s => [.string s], fun _ s => s.size ≤ maxLen, by decide, fun _ => rfl, fun h _ _ => h⟩

variable {α : Type}

/-- the slice holds its list. -/
structure Rows (D : Dat α) (w : World) (s : Sl α) : Prop where
  row : RdC w s.a s.l.length s.c (s.l.flatMap D.cells)
  all : ∀ x ∈ s.l, D.ok w x

theorem Rows.below {D : Dat α} {w w' : World} {s : Sl α} {B : Nat} (h : Rows D w s) (hb : Below B w w') (hB : w.heap.size ≤ B) : Rows D w' s :=
  ⟨h.row.below hb hB, fun x hx => D.below (h.all x hx) hb hB⟩
theorem Rows.bel {D : Dat α} {w w' : World} {s : Sl α} (h : Rows D w s) (hb : Below w.heap.size w w') : Rows D w' s := h.below hb (Nat.le_refl _)
theorem Rows.drew {D : Dat α} {w : World} {s : Sl α} (h : Rows D w s) : Rows D w.drew s := h.below (Below.refl w.heap.size w).drew (Nat.le_refl _)
theorem Rows.alloc {D : Dat α} {w : World} {s : Sl α} (h : Rows D w s) (o : Obj) : Rows D (w.alloc o) s := h.bel ((Below.refl _ w).alloc (Nat.le_refl _) o)
theorem Rows.nil (D : Dat α) (w : World) : Rows D w Sl.none := ⟨RdC.nilSlice w, fun x hx => by cases hx⟩

theorem Rows.len {D : Dat α} {w : World} {s : Sl α} (h : Rows D w s) : s.l.length ≤ 9223372036854775807 := by
  have := h.row.le; have := h.row.cap; unfold maxLen at *; omega

theorem flat_get (D : Dat α) : ∀ (l : List α) (i : Nat) (x : α), l[i]? = some x → ∀ (j : Nat) (u : Value), (D.cells x)[j]? = some u → (l.flatMap D.cells)[i * D.size + j]? = some u
  | [], i, x, h, _, _, _ => by simp at h
  | y :: l, 0, x, h, j, u, hj => by
    simp at h; subst h
    obtain ⟨hl, _⟩ := List.getElem?_eq_some_iff.1 hj
    rw [List.flatMap_cons, Nat.zero_mul, Nat.zero_add, List.getElem?_append_left hl]; exact hj
  | y :: l, i + 1, x, h, j, u, hj => by
    rw [List.flatMap_cons, List.getElem?_append_right (by rw [D.len, Nat.add_mul]; omega), D.len, show (i + 1) * D.size + j - D.size = i * D.size + j from by rw [Nat.add_mul]; omega]
    exact flat_get D l i x (by simpa using h) j u hj

theorem flat_len (D : Dat α) (l : List α) : (l.flatMap D.cells).length = l.length * D.size := by
  induction l with
  | nil => simp
  | cons x l ih => rw [List.flatMap_cons, List.length_append, ih, D.len, List.length_cons, Nat.add_mul]; omega

/-- where the slice lies, and its elements' cells. -/
def RowAt (D : Dat α) (w : World) (b o : Nat) (l : List α) : Prop := ∀ (i : Nat) (x : α), l[i]? = some x → ∀ (j : Nat) (u : Value), (D.cells x)[j]? = some u → w.cell? ⟨b, o + i * D.size + j, Option.none⟩ = some u
theorem Rows.at' {D : Dat α} {w : World} {s : Sl α} (h : Rows D w s) :
    ∃ b o, (0 < s.l.length → s.a = some ⟨b, o, Option.none⟩ ∧ b < w.heap.size) ∧ RowAt D w b o s.l := by
  obtain ⟨b, o, h1, h2⟩ := h.row.at'
  refine ⟨b, o, fun h0 => h1 ?_, fun i x hx j u hj => by rw [Nat.add_assoc]; exact h2 _ u (flat_get D _ i x hx j u hj)⟩
  rw [flat_len]; exact Nat.mul_pos h0 D.pos
theorem RowAt.drewN {D : Dat α} {w : World} {b o : Nat} {l : List α} (h : RowAt D w b o l) (n : Nat) : RowAt D (w.drewN n) b o l := h
theorem RowAt.bel {D : Dat α} {w w' : World} {b o : Nat} {l : List α} (h : RowAt D w b o l) (hb : b < w.heap.size) (k : Below w.heap.size w w') : RowAt D w' b o l :=
  fun i x hx j u hj => (k.cell (p := ⟨b, _, Option.none⟩) hb).trans (h i x hx j u hj)

theorem get_lt {l : List α} {i : Nat} (h : i < l.length) : ∃ x, l[i]? = some x := ⟨_, List.getElem?_eq_getElem h⟩

theorem Rows.ok {D : Dat α} {w : World} {s : Sl α} (h : Rows D w s) {i : Nat} {x : α} (hx : s.l[i]? = some x) : D.ok w x := h.all x (List.mem_of_getElem? hx)

/-- numbers. -/
theorem flat_int (k : IntKind) (l : List Int) : l.flatMap (intD k).cells = l.map (Value.int k) := by
  induction l with
  | nil => rfl
  | cons x l ih => rw [List.flatMap_cons, ih]; rfl
theorem Rows.rdI {k : IntKind} {w : World} {s : Sl Int} (h : Rows (intD k) w s) : RdI k w s.a s.c s.l :=
  ⟨by have := h.row; rwa [flat_int] at this, h.all⟩
theorem Rows.ofI {k : IntKind} {w : World} {a : Option Addr} {c : Nat} {l : List Int} (h : RdI k w a c l) : Rows (intD k) w ⟨a, c, l⟩ :=
  ⟨by rw [flat_int]; exact h.row, h.bd⟩

/-! ### an argument is opened -/
section
variable {H : Type} {enc : TypeId × Value → H} {P : Program} {w : World} {base : Nat} {spare : Nat → Bool} {held : Bool}

theorem choose_list {p : Nat → α → Prop} : ∀ n, (∀ i, i < n → ∃ x, p i x) → ∃ l : List α, l.length = n ∧ ∀ i x, l[i]? = some x → p i x
  | 0, _ => ⟨[], rfl, fun i x h => by simp at h⟩
  | n + 1, h => by
    obtain ⟨l, hl, hp⟩ := choose_list n (fun i hi => h i (by omega))
    obtain ⟨x, hx⟩ := h n (by omega)
    refine ⟨l ++ [x], by simp [hl], fun i y hy => ?_⟩
    rcases Nat.lt_or_ge i l.length with hlt | hge
    · rw [List.getElem?_append_left hlt] at hy; exact hp i y hy
    · rw [List.getElem?_append_right hge] at hy
      have : i - l.length = 0 := by
        rcases Nat.eq_zero_or_pos (i - l.length) with h | h
        · exact h
        · rw [List.getElem?_eq_none (by simp; omega)] at hy; cases hy
      rw [this] at hy
      simp at hy
      subst hy
      rwa [show i = n from by omega]

theorem flat_of (D : Dat α) {a : Addr} {l : List α} (h : ∀ i x, l[i]? = some x → ∀ (j : Nat) (u : Value), (D.cells x)[j]? = some u → w.cell? (a.add (i * D.size + j)) = some u) : ∀ (i : Nat) (u : Value), (l.flatMap D.cells)[i]? = some u → w.cell? (a.add i) = some u := by
  intro i u hi
  have hlt : i < (l.flatMap D.cells).length := by
    rcases Nat.lt_or_ge i (l.flatMap D.cells).length with h | h
    · exact h
    · rw [List.getElem?_eq_none h] at hi; cases hi
  have hp := D.pos
  rw [flat_len] at hlt
  have hq : i / D.size < l.length := (Nat.div_lt_iff_lt_mul hp).2 hlt
  have hr : i % D.size < D.size := Nat.mod_lt _ hp
  have he : i / D.size * D.size + i % D.size = i := by rw [Nat.mul_comm]; exact Nat.div_add_mod i D.size
  have hx := List.getElem?_eq_getElem hq
  have hu : (D.cells l[i / D.size])[i % D.size]? = some ((D.cells l[i / D.size])[i % D.size]'(by rw [D.len]; exact hr)) := List.getElem?_eq_getElem _
  have h1 := flat_get D l _ _ hx _ _ hu
  rw [he, hi] at h1
  have h2 := h _ _ hx _ _ hu
  rw [he] at h2
  rw [h2, ← h1]

theorem open_rows (D : Dat α) {t e : TypeId} (ht : P.underlying t = some (.slice e)) (hc : P.cellsOf e = D.size)
    (hel : ∀ (m : Nat) (cs : List Value) (y : DataW H × List MemPlace), DataW.trod enc P w base spare held m e cs = some y → ∃ x : α, cs = D.cells x ∧ D.ok w x) {m : Nat} {v : Value} {y : DataW H × List MemPlace} (h : DataW.trod enc P w base spare held m t [v] = some y) :
    ∃ s : Sl α, v = s.val ∧ Rows D w s := by
  rcases Go.Deep.open_slice ht h with ⟨hcs, _⟩ | ⟨a, len, cap, mm, n, DD, Pl, hcs, _, hl, hm, hmm, _, hx⟩
  · simp at hcs
    exact ⟨Sl.none, hcs, Rows.nil D w⟩
  · simp at hcs
    have hle : len ≤ mm := by rw [hmm]; split <;> omega
    rw [hc] at hx
    obtain ⟨l, hlen, hp⟩ := choose_list (p := fun i (x : α) => (∀ (j : Nat) (u : Value), (D.cells x)[j]? = some u → w.cell? (a.add (i * D.size + j)) = some u) ∧ D.ok w x) len (fun i hi => by
      obtain ⟨cs', h1, h2⟩ := hx i (by omega)
      obtain ⟨x, rfl, hok⟩ := hel _ _ _ h2
      obtain ⟨_, hcl, hat⟩ := World.cells?_some h1
      refine ⟨x, fun j u hj => ?_, hok⟩
      obtain ⟨hjl, _⟩ := List.getElem?_eq_some_iff.1 hj
      rw [D.len] at hjl
      rw [← Go.Deep.add_add, hat j hjl, hj])
    refine ⟨⟨some a, cap, l⟩, by rw [hcs, ← hlen]; rfl, ⟨⟨row_of_cells (flat_of D (fun i x hx => (hp i x hx).1)), (fun h => by cases h), by show l.length ≤ cap; omega, hm⟩, fun x hx => ?_⟩⟩
    obtain ⟨i, hi⟩ := List.mem_iff_getElem?.1 hx
    exact (hp i x hi).2

/-- an element of several cells: its leaves. -/
theorem open_rows_leaves (D : Dat α) {t e : TypeId} (ht : P.underlying t = some (.slice e)) (hc : P.cellsOf e = D.size) {n : Nat} {ts : List TypeId} (hl : leaves P n e = some ts)
    (hel : ∀ (cs : List Value), LeafAt enc P w base spare held cs ts → ∃ x : α, cs = D.cells x ∧ D.ok w x) {m : Nat} {v : Value} {y : DataW H × List MemPlace} (h : DataW.trod enc P w base spare held m t [v] = some y) :
    ∃ s : Sl α, v = s.val ∧ Rows D w s := open_rows D ht hc (fun _ cs _ hx => hel cs (leaf_cells n e _ cs _ ts hl hx)) h

theorem open_ints_rows {k : IntKind} {t e : TypeId} (ht : P.underlying t = some (.slice e)) (hc : P.cellsOf e = 1) (he : P.underlying e = some (.int k)) {m : Nat} {v : Value} {y : DataW H × List MemPlace} (h : DataW.trod enc P w base spare held m t [v] = some y) :
    ∃ s : Sl Int, v = s.val ∧ Rows (intD k) w s := open_rows (intD k) ht hc (fun _ cs _ hx => by
      obtain ⟨x, e0, _, wa⟩ := DataW.trod_int he hx
      exact ⟨x, e0, bd_of_wf wa⟩) h

theorem open_strs_rows {t e : TypeId} (ht : P.underlying t = some (.slice e)) (hc : P.cellsOf e = 1) (he : P.underlying e = some .string) {m : Nat} {v : Value} {y : DataW H × List MemPlace} (h : DataW.trod enc P w base spare held m t [v] = some y) :
    ∃ s : Sl ByteArray, v = s.val ∧ Rows strD w s := open_rows strD ht hc (fun _ cs _ hx => by
      obtain ⟨x, e0, _, wa⟩ := DataW.trod_string he hx
      exact ⟨x, e0, wa⟩) h

theorem LeafAt.str {cs : List Value} {ts : List TypeId} (h : LeafAt enc P w base spare held cs ts) (i : Nat) {t : TypeId} (ht : ts[i]? = some t) (hu : P.underlying t = some .string) : ∃ x : ByteArray, cs[i]? = some (.string x) ∧ x.size ≤ maxLen := by
  obtain ⟨v, y, m, h1, h2⟩ := h.2 i t ht
  obtain ⟨x, e0, _, wa⟩ := DataW.trod_string hu h2
  simp at e0
  exact ⟨x, by rw [h1, e0], wa⟩
theorem LeafAt.sl {cs : List Value} {ts : List TypeId} (h : LeafAt enc P w base spare held cs ts) (i : Nat) {t : TypeId} (ht : ts[i]? = some t) {p : Sl α → Prop} (hu : ∀ (m : Nat) (v : Value) (y : DataW H × List MemPlace), DataW.trod enc P w base spare held m t [v] = some y → ∃ s : Sl α, v = s.val ∧ p s) : ∃ s : Sl α, cs[i]? = some s.val ∧ p s := by
  obtain ⟨v, y, m, h1, h2⟩ := h.2 i t ht
  obtain ⟨s, rfl, hs⟩ := hu _ _ _ h2
  exact ⟨s, h1, hs⟩

end
end

end Go.Proofs.Ytfnibpkojhgflaa
