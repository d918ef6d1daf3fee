/- Slices of structs, of slices, of strings: what a walk is told of them, whatever an element is; how an argument is opened to that. Over whatever program. -/
import Derived.Test.YtfnibpkojhgflaaLeaf
import Derived.Deep.Slices
namespace Go.Proofs.Ytfnibpkojhgflaa
set_option linter.unusedVariables false
set_option linter.unusedSimpArgs false
open Go.ChangeShapes Go.WideShapes Go.ChangeAt Go.RowKit

/-- a slice: where it lies, and what it holds. -/
structure Sl (α : Type) where
  a : Option Addr
  c : Nat
  l : List α

def Sl.val {α : Type} (s : Sl α) : Value := .slice s.a s.l.length s.c
def Sl.none {α : Type} : Sl α := ⟨Option.none, 0, []⟩

/-- what an element is: its cells; what it must meet in memory. -/
structure Dat (α : Type) where
  size : Nat
  cells : α → List Value
  ok : World → α → Prop
  pos : 0 < size
  len : ∀ x, (cells x).length = size
  below : ∀ {w w' : World} {x : α} {B : Nat}, ok w x → Below B w w' → w.heap.size ≤ B → ok w' x

def intD (k : IntKind) : Dat Int := ⟨1, fun x => [.int k x], fun _ x => k.min ≤ x ∧ x ≤ k.max, by decide, fun _ => rfl, fun h _ _ => h⟩
def strD : Dat ByteArray := ⟨1, fun s => [.string s], fun _ s => s.size ≤ maxLen, by decide, fun _ => rfl, fun h _ _ => h⟩

variable {α : Type}

/-- the slice holds its list. -/
structure Rows (D : Dat α) (w : World) (s : Sl α) : Prop where
  row : RdC w s.a s.l.length s.c (s.l.flatMap D.cells)
  all : ∀ x ∈ s.l, D.ok w x

theorem Rows.below {D : Dat α} {w w' : World} {s : Sl α} {B : Nat} (h : Rows D w s) (hb : Below B w w') (hB : w.heap.size ≤ B) : Rows D w' s :=
  ⟨h.row.below hb hB, fun x hx => D.below (h.all x hx) hb hB⟩
theorem Rows.bel {D : Dat α} {w w' : World} {s : Sl α} (h : Rows D w s) (hb : Below w.heap.size w w') : Rows D w' s := h.below hb (Nat.le_refl _)
theorem Rows.drew {D : Dat α} {w : World} {s : Sl α} (h : Rows D w s) : Rows D w.drew s := h.below (Below.refl w.heap.size w).drew (Nat.le_refl _)
theorem Rows.alloc {D : Dat α} {w : World} {s : Sl α} (h : Rows D w s) (o : Obj) : Rows D (w.alloc o) s := h.bel ((Below.refl _ w).alloc (Nat.le_refl _) o)
theorem Rows.nil (D : Dat α) (w : World) : Rows D w Sl.none := ⟨RdC.nilSlice w, fun x hx => by cases hx⟩

theorem Rows.len {D : Dat α} {w : World} {s : Sl α} (h : Rows D w s) : s.l.length ≤ 9223372036854775807 := by
  have := h.row.le; have := h.row.cap; unfold maxLen at *; omega

theorem flat_get (D : Dat α) : ∀ (l : List α) (i : Nat) (x : α), l[i]? = some x → ∀ (j : Nat) (u : Value), (D.cells x)[j]? = some u → (l.flatMap D.cells)[i * D.size + j]? = some u
  | [], i, x, h, _, _, _ => by simp at h
  | y :: l, 0, x, h, j, u, hj => by
    simp at h; subst h
    obtain ⟨hl, _⟩ := List.getElem?_eq_some_iff.1 hj
    rw [List.flatMap_cons, Nat.zero_mul, Nat.zero_add, List.getElem?_append_left hl]; exact hj
  | y :: l, i + 1, x, h, j, u, hj => by
    rw [List.flatMap_cons, List.getElem?_append_right (by rw [D.len, Nat.add_mul]; omega), D.len, show (i + 1) * D.size + j - D.size = i * D.size + j from by rw [Nat.add_mul]; omega]
    exact flat_get D l i x (by simpa using h) j u hj

theorem flat_len (D : Dat α) (l : List α) : (l.flatMap D.cells).length = l.length * D.size := by
  induction l with
  | nil => simp
  | cons x l ih => rw [List.flatMap_cons, List.length_append, ih, D.len, List.length_cons, Nat.add_mul]; omega

/-- where the slice lies, and its elements' cells. -/
def RowAt (D : Dat α) (w : World) (b o : Nat) (l : List α) : Prop := ∀ (i : Nat) (x : α), l[i]? = some x → ∀ (j : Nat) (u : Value), (D.cells x)[j]? = some u → w.cell? ⟨b, o + i * D.size + j, Option.none⟩ = some u
theorem Rows.at' {D : Dat α} {w : World} {s : Sl α} (h : Rows D w s) :
    ∃ b o, (0 < s.l.length → s.a = some ⟨b, o, Option.none⟩ ∧ b < w.heap.size) ∧ RowAt D w b o s.l := by
  obtain ⟨b, o, h1, h2⟩ := h.row.at'
  refine ⟨b, o, fun h0 => h1 ?_, fun i x hx j u hj => by rw [Nat.add_assoc]; exact h2 _ u (flat_get D _ i x hx j u hj)⟩
  rw [flat_len]; exact Nat.mul_pos h0 D.pos
theorem RowAt.drewN {D : Dat α} {w : World} {b o : Nat} {l : List α} (h : RowAt D w b o l) (n : Nat) : RowAt D (w.drewN n) b o l := h
theorem RowAt.bel {D : Dat α} {w w' : World} {b o : Nat} {l : List α} (h : RowAt D w b o l) (hb : b < w.heap.size) (k : Below w.heap.size w w') : RowAt D w' b o l :=
  fun i x hx j u hj => (k.cell (p := ⟨b, _, Option.none⟩) hb).trans (h i x hx j u hj)

theorem get_lt {l : List α} {i : Nat} (h : i < l.length) : ∃ x, l[i]? = some x := ⟨_, List.getElem?_eq_getElem h⟩

theorem Rows.ok {D : Dat α} {w : World} {s : Sl α} (h : Rows D w s) {i : Nat} {x : α} (hx : s.l[i]? = some x) : D.ok w x := h.all x (List.mem_of_getElem? hx)

/-- numbers. -/
theorem flat_int (k : IntKind) (l : List Int) : l.flatMap (intD k).cells = l.map (Value.int k) := by
  induction l with
  | nil => rfl
  | cons x l ih => rw [List.flatMap_cons, ih]; rfl
theorem Rows.rdI {k : IntKind} {w : World} {s : Sl Int} (h : Rows (intD k) w s) : RdI k w s.a s.c s.l :=
  ⟨by have := h.row; rwa [flat_int] at this, h.all⟩
theorem Rows.ofI {k : IntKind} {w : World} {a : Option Addr} {c : Nat} {l : List Int} (h : RdI k w a c l) : Rows (intD k) w ⟨a, c, l⟩ :=
  ⟨by rw [flat_int]; exact h.row, h.bd⟩

/-! ### an argument is opened -/
section
variable {H : Type} {enc : TypeId × Value → H} {P : Program} {w : World} {base : Nat} {spare : Nat → Bool} {held : Bool}

theorem choose_list {p : Nat → α → Prop} : ∀ n, (∀ i, i < n → ∃ x, p i x) → ∃ l : List α, l.length = n ∧ ∀ i x, l[i]? = some x → p i x
  | 0, _ => ⟨[], rfl, fun i x h => by simp at h⟩
  | n + 1, h => by
    obtain ⟨l, hl, hp⟩ := choose_list n (fun i hi => h i (by omega))
    obtain ⟨x, hx⟩ := h n (by omega)
    refine ⟨l ++ [x], by simp [hl], fun i y hy => ?_⟩
    rcases Nat.lt_or_ge i l.length with hlt | hge
    · rw [List.getElem?_append_left hlt] at hy; exact hp i y hy
    · rw [List.getElem?_append_right hge] at hy
      have : i - l.length = 0 := by
        rcases Nat.eq_zero_or_pos (i - l.length) with h | h
        · exact h
        · rw [List.getElem?_eq_none (by simp; omega)] at hy; cases hy
      rw [this] at hy
      simp at hy
      subst hy
      rwa [show i = n from by omega]

theorem flat_of (D : Dat α) {a : Addr} {l : List α} (h : ∀ i x, l[i]? = some x → ∀ (j : Nat) (u : Value), (D.cells x)[j]? = some u → w.cell? (a.add (i * D.size + j)) = some u) : ∀ (i : Nat) (u : Value), (l.flatMap D.cells)[i]? = some u → w.cell? (a.add i) = some u := by
  intro i u hi
  have hlt : i < (l.flatMap D.cells).length := by
    rcases Nat.lt_or_ge i (l.flatMap D.cells).length with h | h
    · exact h
    · rw [List.getElem?_eq_none h] at hi; cases hi
  have hp := D.pos
  rw [flat_len] at hlt
  have hq : i / D.size < l.length := (Nat.div_lt_iff_lt_mul hp).2 hlt
  have hr : i % D.size < D.size := Nat.mod_lt _ hp
  have he : i / D.size * D.size + i % D.size = i := by rw [Nat.mul_comm]; exact Nat.div_add_mod i D.size
  have hx := List.getElem?_eq_getElem hq
  have hu : (D.cells l[i / D.size])[i % D.size]? = some ((D.cells l[i / D.size])[i % D.size]'(by rw [D.len]; exact hr)) := List.getElem?_eq_getElem _
  have h1 := flat_get D l _ _ hx _ _ hu
  rw [he, hi] at h1
  have h2 := h _ _ hx _ _ hu
  rw [he] at h2
  rw [h2, ← h1]

theorem open_rows (D : Dat α) {t e : TypeId} (ht : P.underlying t = some (.slice e)) (hc : P.cellsOf e = D.size)
    (hel : ∀ (m : Nat) (cs : List Value) (y : DataW H × List MemPlace), DataW.trod enc P w base spare held m e cs = some y → ∃ x : α, cs = D.cells x ∧ D.ok w x) {m : Nat} {v : Value} {y : DataW H × List MemPlace} (h : DataW.trod enc P w base spare held m t [v] = some y) :
    ∃ s : Sl α, v = s.val ∧ Rows D w s := by
  rcases Go.Deep.open_slice ht h with ⟨hcs, _⟩ | ⟨a, len, cap, mm, n, DD, Pl, hcs, _, hl, hm, hmm, _, hx⟩
  · simp at hcs
    exact ⟨Sl.none, hcs, Rows.nil D w⟩
  · simp at hcs
    have hle : len ≤ mm := by rw [hmm]; split <;> omega
    rw [hc] at hx
    obtain ⟨l, hlen, hp⟩ := choose_list (p := fun i (x : α) => (∀ (j : Nat) (u : Value), (D.cells x)[j]? = some u → w.cell? (a.add (i * D.size + j)) = some u) ∧ D.ok w x) len (fun i hi => by
      obtain ⟨cs', h1, h2⟩ := hx i (by omega)
      obtain ⟨x, rfl, hok⟩ := hel _ _ _ h2
      obtain ⟨_, hcl, hat⟩ := World.cells?_some h1
      refine ⟨x, fun j u hj => ?_, hok⟩
      obtain ⟨hjl, _⟩ := List.getElem?_eq_some_iff.1 hj
      rw [D.len] at hjl
      rw [← Go.Deep.add_add, hat j hjl, hj])
    refine ⟨⟨some a, cap, l⟩, by rw [hcs, ← hlen]; rfl, ⟨⟨row_of_cells (flat_of D (fun i x hx => (hp i x hx).1)), (fun h => by cases h), by show l.length ≤ cap; omega, hm⟩, fun x hx => ?_⟩⟩
    obtain ⟨i, hi⟩ := List.mem_iff_getElem?.1 hx
    exact (hp i x hi).2

/-- an element of several cells: its leaves. -/
theorem open_rows_leaves (D : Dat α) {t e : TypeId} (ht : P.underlying t = some (.slice e)) (hc : P.cellsOf e = D.size) {n : Nat} {ts : List TypeId} (hl : leaves P n e = some ts)
    (hel : ∀ (cs : List Value), LeafAt enc P w base spare held cs ts → ∃ x : α, cs = D.cells x ∧ D.ok w x) {m : Nat} {v : Value} {y : DataW H × List MemPlace} (h : DataW.trod enc P w base spare held m t [v] = some y) :
    ∃ s : Sl α, v = s.val ∧ Rows D w s := open_rows D ht hc (fun _ cs _ hx => hel cs (leaf_cells n e _ cs _ ts hl hx)) h

theorem open_ints_rows {k : IntKind} {t e : TypeId} (ht : P.underlying t = some (.slice e)) (hc : P.cellsOf e = 1) (he : P.underlying e = some (.int k)) {m : Nat} {v : Value} {y : DataW H × List MemPlace} (h : DataW.trod enc P w base spare held m t [v] = some y) :
    ∃ s : Sl Int, v = s.val ∧ Rows (intD k) w s := open_rows (intD k) ht hc (fun _ cs _ hx => by
      obtain ⟨x, e0, _, wa⟩ := DataW.trod_int he hx
      exact ⟨x, e0, bd_of_wf wa⟩) h

theorem open_strs_rows {t e : TypeId} (ht : P.underlying t = some (.slice e)) (hc : P.cellsOf e = 1) (he : P.underlying e = some .string) {m : Nat} {v : Value} {y : DataW H × List MemPlace} (h : DataW.trod enc P w base spare held m t [v] = some y) :
    ∃ s : Sl ByteArray, v = s.val ∧ Rows strD w s := open_rows strD ht hc (fun _ cs _ hx => by
      obtain ⟨x, e0, _, wa⟩ := DataW.trod_string he hx
      exact ⟨x, e0, wa⟩) h

theorem LeafAt.str {cs : List Value} {ts : List TypeId} (h : LeafAt enc P w base spare held cs ts) (i : Nat) {t : TypeId} (ht : ts[i]? = some t) (hu : P.underlying t = some .string) : ∃ x : ByteArray, cs[i]? = some (.string x) ∧ x.size ≤ maxLen := by
  obtain ⟨v, y, m, h1, h2⟩ := h.2 i t ht
  obtain ⟨x, e0, _, wa⟩ := DataW.trod_string hu h2
  simp at e0
  exact ⟨x, by rw [h1, e0], wa⟩
theorem LeafAt.sl {cs : List Value} {ts : List TypeId} (h : LeafAt enc P w base spare held cs ts) (i : Nat) {t : TypeId} (ht : ts[i]? = some t) {p : Sl α → Prop} (hu : ∀ (m : Nat) (v : Value) (y : DataW H × List MemPlace), DataW.trod enc P w base spare held m t [v] = some y → ∃ s : Sl α, v = s.val ∧ p s) : ∃ s : Sl α, cs[i]? = some s.val ∧ p s := by
  obtain ⟨v, y, m, h1, h2⟩ := h.2 i t ht
  obtain ⟨s, rfl, hs⟩ := hu _ _ _ h2
  exact ⟨s, h1, hs⟩

end

end Go.Proofs.Ytfnibpkojhgflaa
