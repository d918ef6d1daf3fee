/- From an argument's reading to what a walk is told of a slice of strings. Over whatever program. -/
import Derived.Test.YtdgiijidgjagbaaOpen
import Derived.SliceStrings
namespace Go.Proofs.Ytdgiijidgjagbaa
open Go.ChangeShapes Go.WideShapes Go.ChangeAt Go.RowKit
set_option linter.unusedVariables false

variable {H : Type} {enc : TypeId × Value → H} {P : Program} {W : World} {t e : TypeId} {v : Value} {d : DataW H} {p : List MemPlace}

structure RdS (w : World) (a : Option Addr) (c : Nat) (l : List ByteArray) : Prop where
  row : RdC w a l.length c (l.map Value.string)
  sz : ∀ s ∈ l, s.size ≤ maxLen

theorem open_strs (ht : P.underlying t = some (.slice e)) (he : P.underlying e = some .string) (hc : P.cellsOf e = 1) (hv : ∃ a n c, v = .slice a n c) (h : DataW.Trod enc P W 0 (fun _ => true) true t v d p) :
    ∃ a c l, v = .slice a l.length c ∧ RdS W a c l := by
  obtain ⟨a, n, c, rfl⟩ := hv
  obtain ⟨fuel, hf⟩ := h
  rcases open_strings ht he hc hf with ⟨hcs, _⟩ | ⟨x, l, cp, ss, hcs, _, hl, hm, hz, _, hcell, hwz⟩
  · simp [Value.cells] at hcs
    obtain ⟨rfl, rfl, rfl⟩ := hcs
    exact ⟨none, 0, [], rfl, RdC.nilSlice W, fun x hx => by cases hx⟩
  · simp [Value.cells] at hcs
    obtain ⟨rfl, rfl, rfl⟩ := hcs
    have hz' : ss.length = c := by simpa using hz
    have hlen : (ss.take n).length = n := by rw [List.length_take]; omega
    refine ⟨some x, c, ss.take n, by rw [hlen], ⟨?_, (fun h => by cases h), by omega, hm⟩, fun y hy => hwz y (List.mem_of_mem_take hy)⟩
    refine row_of_cells fun i u hi => ?_
    rw [List.getElem?_map] at hi
    obtain ⟨y, hy, rfl⟩ := Option.map_eq_some_iff.1 hi
    rw [List.getElem?_take] at hy
    split at hy
    · have hi2 : i < ss.length := by omega
      rw [hcell i hi2, List.getD_eq_getElem?_getD, hy]; rfl
    · cases hy

end Go.Proofs.Ytdgiijidgjagbaa
