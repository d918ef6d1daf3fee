/- Bounds of a word's fields. -/
import Derived.Test.YtmnmbpenonodiaaDoorRiscOf
namespace Go.Proofs.YtmnmbpenonodiaaDoor
set_option linter.unusedVariables false
set_option linter.unusedSimpArgs false
open Go.RowKit

theorem flds_bd {x : Int} (hx : 0 ≤ x ∧ x < 4294967296) : (0 ≤ (flds x).form ∧ (flds x).form ≤ 6) ∧ (0 ≤ (flds x).a ∧ (flds x).a < 16) ∧ (0 ≤ (flds x).b ∧ (flds x).b < 16) ∧ 0 ≤ (flds x).c ∧ ((flds x).form = 1 → (flds x).c = 0) ∧ 0 ≤ (flds x).op ∧ (0 ≤ (flds x).cond ∧ (flds x).cond < 16) ∧ 0 ≤ (flds x).n ∧ (-2147483648 ≤ (flds x).off ∧ (flds x).off < 2147483648) := by
  have h1 := W.sg_bd (a := W.ext x 20) (W.wd_lo _) (W.wd_hi _)
  have h2 := W.sg_bd (a := W.ext x 24) (W.wd_lo _) (W.wd_hi _)
  unfold flds
  (repeat' split) <;> simp only [] <;> refine ⟨⟨?_, ?_⟩, ⟨?_, ?_⟩, ⟨?_, ?_⟩, ?_, ?_, ?_, ⟨?_, ?_⟩, ?_, ⟨?_, ?_⟩⟩ <;> (try intro _) <;> omega

theorem cell_of {w : World} {l : List Row} (H : Sep w l) (k : Nat) {g : Nat} {cs : Array Value} {t : TypeId} (e : l[k]? = some (g, cs, t)) (j : Nat) {v : Value} (hv : cs[j]? = some v) : w.cell? ⟨g, j, none⟩ = some v := ((H.at k e).cell j).trans hv
theorem ke2 {w : World} {a b : World} {g : Nat} (h : Ke Non w a) (k : Ke (· = g) a b) (hg : w.heap.size ≤ g) : Ke Non w b := h.trans' k (fun i hi hh => by have : i = g := hh; omega)

end Go.Proofs.YtmnmbpenonodiaaDoor
