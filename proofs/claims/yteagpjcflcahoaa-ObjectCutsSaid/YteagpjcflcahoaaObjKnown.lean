/- Contract: the chapter's rows ('known'). -/
import Derived.Test.YteagpjcflcahoaaObjOBytes
namespace Go.Proofs.Yteagpjcflcahoaa
set_option linter.unusedVariables false
set_option linter.unusedSimpArgs false
open Go.RowKit

def knD : OD := ⟨⟨#[77]⟩, 5, [], 0, [], [0], [0], []⟩
def knB : List Int := [79, 49, 1, 77, 5, 0, 0, 0, 0, 0, 0, 0, 0, 0, 0, 0, 0, 1, 0, 0, 0, 0, 0, 0, 0, 1, 0, 0, 0, 0, 0, 0, 0, 0]
theorem knB_is : knD.bytes = knB := by decide +kernel
theorem knD_may : mayObj knD = true := by decide +kernel
def knO (w : World) : Obj := ⟨⟨#[77]⟩, 5, Sl.none, 0, Sl.none, ⟨some ⟨w.heap.size, 0, none⟩, 1, [0]⟩, ⟨some ⟨w.heap.size + 1, 0, none⟩, 1, [0]⟩, Sl.none⟩
theorem kn_rd (w : World) : (knO w).Rd ((w.alloc (.cells #[.int .u32 0] 22)).alloc (.cells #[.int .i64 0] 3)) := by
  have h1 := (At.new w #[.int .u32 0] 22).old (.cells #[.int .i64 0] 3)
  have h2 := At.new (w.alloc (.cells #[.int .u32 0] 22)) #[.int .i64 0] 3
  rw [show (w.alloc (.cells #[.int .u32 0] 22)).heap.size = w.heap.size + 1 by simp] at h2
  have hm : (1 : Nat) ≤ maxLen := by unfold maxLen; omega
  refine ⟨hm, show (0 : Int) ≤ 5 ∧ (5 : Int) < 4294967296 by omega, Rows.nil _ _, show i64In 0 by unfold i64In; omega, Rows.nil _ _, ?_, ?_, Rows.nil _ _⟩
  · refine ⟨⟨⟨w.heap.size, 0, fun _ => ⟨rfl, h1.lt⟩, fun j u hj => ?_⟩, fun h => (by cases h), Nat.le_refl _, hm⟩, fun x hx => ?_⟩
    · have hj' : ([Value.int .u32 0] : List Value)[j]? = some u := hj
      rw [Nat.zero_add]
      exact (h1.cell j).trans (by simpa using hj')
    · have hx' : x ∈ ([0] : List Int) := hx
      rw [List.mem_singleton] at hx'
      subst hx'
      exact bd_u32' ⟨by omega, by omega⟩
  · refine ⟨⟨⟨w.heap.size + 1, 0, fun _ => ⟨rfl, h2.lt⟩, fun j u hj => ?_⟩, fun h => (by cases h), Nat.le_refl _, hm⟩, fun x hx => ?_⟩
    · have hj' : ([Value.int .i64 0] : List Value)[j]? = some u := hj
      rw [Nat.zero_add]
      exact (h2.cell j).trans (by simpa using hj')
    · have hx' : x ∈ ([0] : List Int) := hx
      rw [List.mem_singleton] at hx'
      subst hx'
      exact bd_i64' ⟨by omega, by omega⟩

set_option maxRecDepth 100000 in
set_option maxHeartbeats 2000000 in
theorem known_walk (w : World) : Calls Try.prog 6 #[] w fun e w' => e = .returned (.bool true) ∧ Below w.heap.size w w' := by
  have HC := Lib.hid (obytes_walk (knO w) _ (kn_rd w) knD_may)
  have HB0 := Lib.hid (bel2 w (.cells #[.int .u32 0] 22) (.cells #[.int .i64 0] 3))
  have f1 : True := trivial
  go_enter Try.func6, Try.ntmps6
  go_wp2_with (have _f := f1; refine HC.out.mono ?_; rintro e w3 ⟨a, c, rfl, hr, hb⟩; rw [show (knO w).d.bytes = knB from knB_is] at hr; have HRB := Lib.hid hr; have HB := Lib.hid (bel_then HB0.out hb); have hcap := hr.row.le; obtain ⟨b, o, h1, h2⟩ := hr.row.at'; obtain ⟨rfl, _⟩ := h1 (by decide); have c4 : w3.cell? ⟨b, o + 4, none⟩ = some (.int .u8 5) := h2 4 _ rfl; have c8 : w3.cell? ⟨b, o + 8, none⟩ = some (.int .u8 0) := h2 8 _ rfl; have c17 : w3.cell? ⟨b, o + 17, none⟩ = some (.int .u8 1) := h2 17 _ rfl; have hcc : (34 : Nat) ≤ c := hcap; have k1 : (4 : Int) ≤ c := (by omega); have k2 : ¬ c = 0 := (by omega); have k3 : 0 < c := (by omega); have hcv : (convert 24 9 (.slice (some ⟨b, o, none⟩) 4 c)).run Try.prog w3 = .ok (.string ⟨#[79, 49, 1, 77]⟩) w3 := run_str_of (P := Try.prog) (dst := 9) (hr.take 4 (by decide)).1 Try.underlying24 Try.underlying5 Try.underlying9; clear hr hb h1 h2 hcap hcc _f f1)
  go_ret
  exact ⟨rfl, HB.out⟩
end Go.Proofs.Yteagpjcflcahoaa
