/- A row that a loop appends to, element by element, beside blocks that are written: what is kept of it. Over whatever program. -/
import Derived.Test.YtfnibpkojhgflaaDat
import Derived.Test.YtfnibpkojhgflaaSep
import Derived.Test.YtfnibpkojhgflaaAppAt
import Derived.Test.YtfnibpkojhgflaaSepApp
namespace Go.Proofs.Ytfnibpkojhgflaa
set_option linter.unusedVariables false
set_option linter.unusedSimpArgs false
open Go.RowKit

theorem ownsRow_ke {G : Nat → Prop} {w w' : World} {base size n : Nat} {e : TypeId} {v : Value} {xs : List Value} (h : w.ownsRow base e size v n xs) (k : Ke G w w') (hG : ∀ i, v.ownBlock = some i → ¬ G i) : w'.ownsRow base e size v n xs := by
  obtain ⟨h1, h2⟩ := h
  refine ⟨h1, ?_⟩
  rcases h2 with h2 | ⟨g, cap, cur, rfl, hb, hh, hr⟩
  · exact .inl h2
  · exact .inr ⟨g, cap, cur, rfl, hb, (k.block g (Array.getElem?_eq_some_iff.1 hh).1 (hG g rfl)).trans hh, hr⟩

theorem rdc_at {w : World} {h : Nat} {cs : Array Value} {t : TypeId} (ha : At w h cs t) : RdC w (some ⟨h, 0, none⟩) 1 1 cs.toList :=
  ⟨⟨h, 0, fun _ => ⟨rfl, ha.lt⟩, fun j u hj => by rw [Nat.zero_add]; exact (ha.cell j).trans (by simpa using hj)⟩, fun h => (by cases h), Nat.le_refl _, by unfold maxLen; decide⟩

theorem bel_ke {G : Nat → Prop} {B : Nat} {w w' : World} (h : Ke G w w') (hG : ∀ i, G i → B ≤ i) (hB : B ≤ w.heap.size) : Below B w w' :=
  ⟨h.os, h.tape, h.output, h.size, fun k hk => h.block k (Nat.lt_of_lt_of_le hk hB) (fun hh => Nat.lt_irrefl _ (Nat.lt_of_lt_of_le hk (hG k hh)))⟩

/-- the last assignment ahead of a return. -/
theorem assign_end {P : Program} {ops : Array Oper} {rest : List Oper} {o : Oper} {a : Act} {w : World} {Q : Exit → Act → World → Prop} (hgd : o.guard = none) (x : Operand) (ho : o.op = .assign x) {v : Value} (hx : a.eval x = v)
    (h : wpList P ops Q rest (a.put o.dst v) w) : wpList P ops Q (o :: rest) a w := by
  refine wpList_plain hgd fun K hK => ?_
  unfold Oper.wp execOp
  simp only [ho, hx, Sem.run_pure]
  exact hK _ _ h

variable {α : Type}
/-- from the world wB on, blocks of G may have been written; the row v is newer than wB, and holds l. -/
structure RowLoop (D : Dat α) (e : TypeId) (wB wr : World) (G : Nat → Prop) (v : Value) (l : List α) : Prop where
  own : wr.ownsRow wB.heap.size e D.size v l.length (l.flatMap D.cells)
  ke : Ke G wB wr
  ok : ∀ wz, Ke (fun i => G i ∨ v.ownBlock = some i) wr wz → ∀ x ∈ l, D.ok wz x
variable {D : Dat α} {e : TypeId} {wB wr wz : World} {G : Nat → Prop} {v v' : Value} {l : List α} {x : α}

theorem RowLoop.start (D : Dat α) (e : TypeId) (wB : World) (G : Nat → Prop) : RowLoop D e wB wB G (.slice none 0 0) [] := ⟨World.ownsRow_nil _ _ _ _, Ke.refl _ _, fun _ _ x hx => by cases hx⟩
theorem RowLoop.low (h : RowLoop D e wB wr G v l) : ∀ i, v.ownBlock = some i → wB.heap.size ≤ i := fun i hi => (h.own.lt i hi).1
theorem RowLoop.on (h : RowLoop D e wB wr G v l) (hG : ∀ i, G i → i < wB.heap.size) (k : Ke G wr wz) : RowLoop D e wB wz G v l :=
  ⟨ownsRow_ke h.own k (fun i hi hg => absurd (hG i hg) (Nat.not_lt.2 (h.low i hi))), h.ke.trans k, fun wy ky x hx => h.ok wy ((k.mono fun i _ hi => .inl hi).trans ky) x hx⟩
theorem RowLoop.bel (h : RowLoop D e wB wr G v l) (hG : ∀ i, G i → i < wB.heap.size) (k : Below wr.heap.size wr wz) : RowLoop D e wB wz G v l := h.on hG (Ke.below _ k)
theorem RowLoop.app (h : RowLoop D e wB wr G v l) (hG : ∀ i, G i → i < wB.heap.size) (ho : wz.ownsRow wB.heap.size e D.size v' (l.length + 1) (l.flatMap D.cells ++ D.cells x)) (hg : wr.grownBy wz v.ownBlock)
    (hv : v'.ownBlock = v.ownBlock ∨ v'.ownBlock = some wr.heap.size) (hx : ∀ wy, Ke (fun i => G i ∨ v.ownBlock = some i) wr wy → D.ok wy x) : RowLoop D e wB wz G v' (l ++ [x]) ∧ Ke (fun i => wB.heap.size ≤ i) wr wz := by
  have k1 : Ke (fun i => v.ownBlock = some i) wr wz := Ke.ofGrown hg
  have kk : ∀ wy, Ke (fun i => G i ∨ v'.ownBlock = some i) wz wy → Ke (fun i => G i ∨ v.ownBlock = some i) wr wy := fun wy ky =>
    (k1.mono fun i _ hi => .inr hi).trans' ky (fun i hi hh => by
      rcases hh with hh | hh
      · exact .inl hh
      · rcases hv with hv | hv
        · exact .inr (hv ▸ hh)
        · rw [hv] at hh
          have := Option.some.inj hh
          omega)
  refine ⟨⟨by rw [List.length_append, List.flatMap_append, List.flatMap_cons, List.flatMap_nil, List.append_nil]; exact ho, ?_, fun wy ky y hy => ?_⟩, k1.mono fun i _ hi => h.low i hi⟩
  · refine h.ke.trans' k1 (fun i hi hh => ?_)
    exact absurd (h.low i hh) (Nat.not_le.2 hi)
  · rcases List.mem_append.1 hy with hy | hy
    · exact h.ok wy (kk wy ky) y hy
    · obtain rfl := List.mem_singleton.1 hy
      exact hx wy (kk wy ky)
theorem RowLoop.fin (h : RowLoop D e wB wr G v l) (hG : ∀ i, G i → i < wB.heap.size) : ∃ a c, v = .slice a l.length c ∧ ∀ wz, Ke G wr wz → Rows D wz ⟨a, c, l⟩ := by
  obtain ⟨a, c, hv, hr⟩ := RdC.own h.own
  refine ⟨a, c, hv, fun wz k => ?_⟩
  obtain ⟨a', c', hv', hr'⟩ := RdC.own (h.on hG k).own
  rw [hv'] at hv
  simp only [Value.slice.injEq, true_and] at hv
  obtain ⟨rfl, rfl⟩ := hv
  exact ⟨hr', (h.on hG k).ok wz (Ke.refl _ _)⟩
end Go.Proofs.Ytfnibpkojhgflaa
