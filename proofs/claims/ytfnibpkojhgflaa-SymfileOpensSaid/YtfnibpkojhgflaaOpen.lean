/- From an argument's reading to what a walk is told of it (Rd). Over whatever program. -/
import Derived.Test.YtfnibpkojhgflaaRd
import Derived.ProofKit
import Derived.OpenShut
import Derived.ShutString
import Derived.ChangeOld
import Derived.SizedLaws
import Derived.Deep.Matrix
namespace Go.Proofs.Ytfnibpkojhgflaa
open Go.ChangeShapes Go.WideShapes Go.ChangeAt Go.RowKit

/-- cells behind an address that was read. -/
theorem row_of_cells {w : World} {a : Addr} {cs : List Value} (h : ∀ (i : Nat) (u : Value), cs[i]? = some u → w.cell? (a.add i) = some u) :
    ∃ b o, (0 < cs.length → some a = some ⟨b, o, none⟩ ∧ b < w.heap.size) ∧ ∀ (j : Nat) (u : Value), cs[j]? = some u → w.cell? ⟨b, o + j, none⟩ = some u := by
  obtain ⟨b, o, sp⟩ := a
  refine ⟨b, o, fun h0 => ?_, fun j u hj => ?_⟩
  · have h1 := h 0 cs[0] (by simp [h0])
    have h2 : (Addr.add ⟨b, o, sp⟩ 0) = ⟨b, o, sp⟩ := by simp [Addr.add]
    rw [h2] at h1
    have h3 := World.cell?_spot h1
    simp only at h3
    subst h3
    exact ⟨rfl, block_lt_of_cell h1⟩
  · have h1 := h j u hj
    by_cases h0 : j = 0
    · subst h0
      have h2 : (Addr.add ⟨b, o, sp⟩ 0) = ⟨b, o, sp⟩ := by simp [Addr.add]
      rw [h2] at h1
      have h3 := World.cell?_spot h1
      simp only at h3
      subst h3
      simpa using h1
    · simpa [Addr.add, h0] using h1

variable {H : Type} {enc : TypeId × Value → H} {P : Program} {W : World} {t e q : TypeId} {k : IntKind} {v : Value} {d : DataW H} {p : List MemPlace}

theorem open_rdI (ht : P.underlying t = some (.slice e)) (he : P.underlying e = some (.int k)) (hc : P.cellsOf e = 1) (hv : ∃ a n c, v = .slice a n c) (h : DataW.Trod enc P W 0 (fun _ => true) true t v d p) :
    ∃ a c l, v = .slice a l.length c ∧ RdI k W a c l := by
  obtain ⟨a, n, c, rfl⟩ := hv
  obtain ⟨fuel, hf⟩ := h
  rcases open_ints ht he hc hf with ⟨hcs, _⟩ | ⟨x, l, cp, zs, hcs, _, hl, hm, hz, _, hcell, hwz⟩
  · simp [Value.cells] at hcs
    obtain ⟨rfl, rfl, rfl⟩ := hcs
    exact ⟨none, 0, [], rfl, RdC.nilSlice W, fun x hx => by cases hx⟩
  · simp [Value.cells] at hcs
    obtain ⟨rfl, rfl, rfl⟩ := hcs
    have hz' : zs.length = c := by simpa using hz
    have hlen : (zs.take n).length = n := by rw [List.length_take]; omega
    refine ⟨some x, c, zs.take n, by rw [hlen], ⟨?_, (fun h => by cases h), by omega, hm⟩, fun y hy => bd_of_wf (hwz y (List.mem_of_mem_take hy))⟩
    refine row_of_cells fun i u hi => ?_
    rw [List.getElem?_map] at hi
    obtain ⟨y, hy, rfl⟩ := Option.map_eq_some_iff.1 hi
    rw [List.getElem?_take] at hy
    split at hy
    · have hi2 : i < zs.length := by omega
      rw [hcell i hi2, List.getD_eq_getElem?_getD, hy]; rfl
    · cases hy

theorem open_rdII (ht : P.underlying t = some (.slice e)) (he : P.underlying e = some (.slice q)) (hq : P.underlying q = some (.int k)) (ce : P.cellsOf e = 1) (cq : P.cellsOf q = 1) (hv : ∃ a n c, v = .slice a n c)
    (h : DataW.Trod enc P W 0 (fun _ => true) true t v d p) : ∃ a c ls, v = .slice a ls.length c ∧ RdII k W a c ls := by
  obtain ⟨a, n, c, rfl⟩ := hv
  obtain ⟨fuel, hf⟩ := h
  rcases Deep.open_int_rows ht he hq ce cq hf with ⟨hcs, _⟩ | ⟨x, l, cp, A, L, C, Z, hcs, _, hl, hm, _, hr⟩
  · simp [Value.cells] at hcs
    obtain ⟨rfl, rfl, rfl⟩ := hcs
    exact ⟨none, 0, [], rfl, ⟨⟨0, 0, fun h => by simp at h, fun i h => by simp at h⟩, fun _ => rfl, Nat.le_refl _, Nat.zero_le _⟩⟩
  · simp [Value.cells] at hcs
    obtain ⟨rfl, rfl, rfl⟩ := hcs
    have hrow := row_of_cells (w := W) (a := x) (cs := (List.range n).map fun r => .slice (A r) (L r) (C r)) (fun i u hi => by
      rw [List.getElem?_map] at hi
      obtain ⟨y, hy, rfl⟩ := Option.map_eq_some_iff.1 hi
      rw [List.getElem?_range] at hy
      · obtain rfl := Option.some.inj hy
        have : i < n := by
          rcases Nat.lt_or_ge i n with h | h
          · exact h
          · rw [List.getElem?_eq_none (by simpa using h)] at hi; cases hi
        exact (hr i (by omega)).1
      · rcases Nat.lt_or_ge i n with h | h
        · exact h
        · rw [List.getElem?_eq_none (by simpa using h)] at hi; cases hi)
    obtain ⟨b, o, h1, h2⟩ := hrow
    refine ⟨some x, c, (List.range n).map fun r => (Z r).take (L r), by simp, ⟨⟨b, o, fun h0 => h1 (by simpa using h0), fun i hi => ?_⟩, (fun h => by cases h), by simpa using hl, hm⟩⟩
    have hi' : i < n := by simpa using hi
    have e1 : ((List.range n).map fun r => (Z r).take (L r)).getD i [] = (Z i).take (L i) := by
      rw [List.getD_eq_getElem?_getD, List.getElem?_map, List.getElem?_range hi']; rfl
    obtain ⟨c1, c2, c3, c4, c5, c6, c7⟩ := hr i (by omega)
    have hlen : ((Z i).take (L i)).length = L i := by rw [List.length_take]; omega
    rw [e1, hlen]
    refine ⟨A i, C i, h2 i _ (by rw [List.getElem?_map, List.getElem?_range hi']; rfl), ⟨?_, fun hn => ⟨by rw [hlen]; have := c6 hn; omega, c6 hn⟩, by omega, c3⟩, fun y hy => bd_of_wf (c5 y (List.mem_of_mem_take hy))⟩
    cases hA : A i with
    | none =>
      have h0 := c6 hA
      have : (Z i).take (L i) = [] := List.length_eq_zero_iff.1 (by omega)
      rw [this]
      exact ⟨0, 0, fun h => by simp at h, fun j u hj => by simp at hj⟩
    | some y =>
      refine row_of_cells fun j u hj => ?_
      rw [List.getElem?_map] at hj
      obtain ⟨z, hz, rfl⟩ := Option.map_eq_some_iff.1 hj
      rw [List.getElem?_take] at hz
      split at hz
      · rw [(c7 y hA).2 j (by omega), List.getD_eq_getElem?_getD, hz]; rfl
      · cases hz

end Go.Proofs.Ytfnibpkojhgflaa
