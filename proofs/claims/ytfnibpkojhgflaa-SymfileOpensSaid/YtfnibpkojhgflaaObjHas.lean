/- Contracts: slices.IndexFunc and slices.ContainsFunc, with the closures that object.imports and object.May hand them. -/
import Derived.Test.YtfnibpkojhgflaaObjImps
import Derived.Test.YtfnibpkojhgflaaSepMore
import Derived.Test.YtfnibpkojhgflaaMixR
namespace Go.Proofs.Ytfnibpkojhgflaa
set_option linter.unusedVariables false
set_option linter.unusedSimpArgs false
open Go.RowKit

theorem named_walk (yn : ByteArray) (yk : Int) (g : Nat) (xn : ByteArray) (w : World) (hg : w.cell? ⟨g, 0, none⟩ = some (.string xn)) (hl : g < w.heap.size) :
    Calls Try.prog 72 #[.agg #[.string yn, .int .u32 yk], .pointer (some ⟨g, 0, none⟩)] w fun e w' => e = .returned (.bool (yn.toList == xn.toList)) ∧ Below w.heap.size w w' := by
  have hne : ¬ g = w.heap.size := by omega
  have hne2 : ¬ w.heap.size = g := by omega
  have hc : (w.alloc (.cells #[.string yn, .int .u32 yk] 86)).cell? ⟨g, 0, none⟩ = some (.string xn) := ((bel1 w (.cells #[.string yn, .int .u32 yk] 86)).cell hl).trans hg
  go_enter Try.func72, Try.ntmps72
  go_wp2
  go_ret
  exact ⟨rfl, bel1 _ _⟩

/-- where a name stands first. -/
def Where (m : List Imp) (xn : ByteArray) (r : Int) : Prop := (r = -1 ∧ ∀ (j : Nat) (y : Imp), m[j]? = some y → y.name ≠ xn) ∨ (0 ≤ r ∧ ∃ (j : Nat) (y : Imp), m[j]? = some y ∧ y.name = xn)

set_option maxHeartbeats 1000000 in
theorem indexImp_walk (b o c : Nat) (m : List Imp) (g : Nat) (xn : ByteArray) (w : World) (hm : RowAt impD w b o m) (hb : b < w.heap.size) (hlen : m.length ≤ 9223372036854775807) (hg : w.cell? ⟨g, 0, none⟩ = some (.string xn)) (hl : g < w.heap.size) :
    Calls Try.prog 78 #[.slice (some ⟨b, o, none⟩) m.length c, .func (.func 72) #[] #[.pointer (some ⟨g, 0, none⟩)]] w fun e w' => (∃ r : Int, e = .returned (.int .i64 r) ∧ Where m xn r) ∧ Below w.heap.size w w' := by
  have HM := Lib.hid hm
  have HG := Lib.hid hg
  have HBB := Lib.hid hb
  have HL := Lib.hid hl
  clear hm hg hb hl
  go_enter Try.func78, Try.ntmps78
  go_wp2_with fail
  go_loopw [5, 8] (fun _ i wr => ∃ k : Nat, k ≤ m.length ∧ i = .int .i64 k ∧ (∀ (j : Nat) (y : Imp), j < k → m[j]? = some y → y.name ≠ xn) ∧ Below w.heap.size w wr) (fun _ i _ => m.length - (intOf i).toNat)
  case atStart => exact ⟨0, Nat.zero_le _, rfl, fun j y h => by omega, Below.refl _ _⟩
  case round =>
    obtain ⟨k, hk, rfl, hj, hB⟩ := hrel
    have HJ := Lib.hid hj
    have HB := Lib.hid hB
    clear hj hB
    by_cases hlt : k < m.length
    · obtain ⟨⟨yn, yk⟩, hy⟩ := get_lt hlt
      have HY := Lib.hid hy
      have HCO : Hid (∀ (q : Nat) (v : Value), ([.string yn, .int .u32 yk] : List Value)[q]? = some v → wr.cell? ⟨b, o + k * 2 + q, none⟩ = some v) := Lib.hid (fun q v hv => (HB.out.cell (p := ⟨b, o + k * 2 + q, none⟩) HBB.out).trans (HM.out k _ hy q v hv))
      have HGR : Hid (wr.cell? ⟨g, 0, none⟩ = some (.string xn)) := Lib.hid ((HB.out.cell HL.out).trans HG.out)
      have HGL : Hid (g < wr.heap.size) := Lib.hid (Nat.lt_of_lt_of_le HL.out HB.out.size)
      have HLT := Lib.hid hlt
      clear hy
      have f2 : True := trivial
      have f3 : True := trivial
      by_cases he : yn = xn
      · have q1 : (yn.toList == xn.toList) = true := str_same he
        have HW : Hid (Where m xn k) := Lib.hid (.inr ⟨by omega, k, _, HY.out, he⟩)
        clear he
        go_wp2_with (first | (have _f := f2; refine wpList_load_mid rfl 86 (.tmp 14) rfl b (o + k * 2) rfl [.string yn, .int .u32 yk] _ HCO.out Try.underlying86 rfl (by kernel_rfl) ?_; clear _f f2) | (have _f := f3; refine (named_walk yn yk g xn _ HGR.out HGL.out).mono ?_; rintro e w1 ⟨rfl, hb⟩; have HB1 := Lib.hid (bel_then HB.out hb); clear hb _f f3))
        go_ret
        exact ⟨⟨_, rfl, HW.out⟩, HB1.out⟩
      · have q1 : (yn.toList == xn.toList) = false := str_other he
        have HE := Lib.hid he
        clear he
        go_wp2_with (first | (have _f := f2; refine wpList_load_mid rfl 86 (.tmp 14) rfl b (o + k * 2) rfl [.string yn, .int .u32 yk] _ HCO.out Try.underlying86 rfl (by kernel_rfl) ?_; clear _f f2) | (have _f := f3; refine (named_walk yn yk g xn _ HGR.out HGL.out).mono ?_; rintro e w1 ⟨rfl, hb⟩; have HB1 := Lib.hid (bel_then HB.out hb); clear hb _f f3))
        go_roundw
        case rel =>
          refine ⟨k + 1, HLT.out, by go_num, fun j y hj hy => ?_, HB1.out⟩
          rcases Nat.lt_or_ge j k with h | h
          · exact HJ.out j y h hy
          · obtain rfl : j = k := by omega
            rw [HY.out] at hy; cases hy; exact HE.out
        case measure => simp [intOf]; have := HLT.out; omega
    · have HW : Hid (Where m xn (-1)) := Lib.hid (.inl ⟨rfl, fun j y hy => HJ.out j y (by have := (List.getElem?_eq_some_iff.1 hy).1; omega) hy⟩)
      clear hk
      go_wp2
      go_ret
      exact ⟨⟨_, rfl, HW.out⟩, HB.out⟩

theorem containsImp_walk (b o c : Nat) (m : List Imp) (g : Nat) (xn : ByteArray) (w : World) (hm : RowAt impD w b o m) (hb : b < w.heap.size) (hlen : m.length ≤ 9223372036854775807) (hg : w.cell? ⟨g, 0, none⟩ = some (.string xn)) (hl : g < w.heap.size) (n : Nat) (hn : m.length = n) :
    Calls Try.prog 71 #[.slice (some ⟨b, o, none⟩) n c, .func (.func 72) #[] #[.pointer (some ⟨g, 0, none⟩)]] w fun e w' => e = .returned (.bool ((m.map Imp.name).any (fun s => decide (s = xn)))) ∧ Below w.heap.size w w' := by
  subst hn
  have HI := Lib.hid (indexImp_walk b o c m g xn w hm hb hlen hg hl)
  have HA : Hid (∀ r, Where m xn r → decide (0 ≤ r) = (m.map Imp.name).any (fun s => decide (s = xn))) := Lib.hid (fun r h => by
    rw [List.any_map]
    rcases h with ⟨rfl, h⟩ | ⟨h0, j, y, hy, h⟩
    · symm
      rw [show decide ((0 : Int) ≤ -1) = false from rfl, List.any_eq_false]
      intro y hy
      obtain ⟨j, hj⟩ := List.mem_iff_getElem?.1 hy
      simpa using h j y hj
    · rw [decide_eq_true h0]; symm
      rw [List.any_eq_true]
      exact ⟨y, List.mem_of_getElem? hy, by simpa using h⟩)
  clear hm hb hg hl
  go_enter Try.func71, Try.ntmps71
  go_wp2_with (refine HI.out.mono ?_; rintro e w1 ⟨⟨r, rfl, hr⟩, hb⟩; have HR := Lib.hid (HA.out r hr); have HB := Lib.hid hb; clear hr hb)
  go_ret
  exact ⟨ret_bool HR.out, HB.out⟩
end Go.Proofs.Ytfnibpkojhgflaa
