/- Contracts: slices.Equal of numbers, of imports, of fixups; bytes.Equal. -/
import Derived.Test.YteagpjcflcahoaaObjMay0
import Derived.Test.YteagpjcflcahoaaSepMore
import Derived.Test.YteagpjcflcahoaaMixR
import Derived.Laws.StructEq
import Derived.StillTailTactics
namespace Go.Proofs.Yteagpjcflcahoaa
set_option linter.unusedVariables false
set_option linter.unusedSimpArgs false
open Go.RowKit

/-- are two things the same? -/
noncomputable def eqB {α : Type} (x y : α) : Bool := @decide (x = y) (Classical.propDecidable _)
theorem eqB_yes {α : Type} {x y : α} (h : x = y) : eqB x y = true := by unfold eqB; exact @decide_eq_true _ (Classical.propDecidable _) h
theorem eqB_no {α : Type} {x y : α} (h : x ≠ y) : eqB x y = false := by unfold eqB; exact @decide_eq_false _ (Classical.propDecidable _) h
theorem eqB_iff {α : Type} {x y : α} : eqB x y = true ↔ x = y := by unfold eqB; exact @decide_eq_true_iff _ (Classical.propDecidable _)

theorem eq_lists {α : Type} {l m : List α} (hl : l.length = m.length) (h : ∀ j, j < l.length → l[j]? = m[j]?) : l = m := by
  apply List.ext_getElem?
  intro i
  rcases Nat.lt_or_ge i l.length with hi | hi
  · exact h i hi
  · rw [List.getElem?_eq_none hi, List.getElem?_eq_none (by omega)]
theorem not_lists {α : Type} {l m : List α} {j : Nat} {x y : α} (hx : l[j]? = some x) (hy : m[j]? = some y) (h : x ≠ y) : l ≠ m := by
  rintro rfl
  rw [hx] at hy
  exact h (Option.some.inj hy)
theorem int_cells {k : IntKind} {w : World} {b o : Nat} {l : List Int} (h : RowAt (intD k) w b o l) {i : Nat} {x : Int} (hx : l[i]? = some x) : w.cell? ⟨b, o + i, none⟩ = some (.int k x) := by
  have := h i x hx 0 (.int k x) rfl
  rwa [show o + i * (intD k).size + 0 = o + i from by show o + i * 1 + 0 = _; omega] at this
theorem bel_drewN (w : World) (n : Nat) : Below w.heap.size w (w.drewN n) := ⟨rfl, rfl, rfl, Nat.le_refl _, fun _ _ => rfl⟩
theorem drewN_add (w : World) (a b : Nat) : (w.drewN a).drewN b = w.drewN (a + b) := by unfold World.drewN; simp [Nat.add_assoc]

set_option maxHeartbeats 2000000 in
theorem equ32_walk (l m : Sl Int) (w : World) (hl : Rows (intD .u32) w l) (hm : Rows (intD .u32) w m) :
    Calls Try.prog 18 #[.slice l.a l.l.length l.c, .slice m.a m.l.length m.c] w fun e w' => e = .returned (.bool (eqB l.l m.l)) ∧ Below w.heap.size w w' := by
  have hll := hl.len
  have hml := hm.len
  obtain ⟨b1, o1, hat1, hcell1⟩ := hl.at'
  obtain ⟨b2, o2, hat2, hcell2⟩ := hm.at'
  have HA1 := Lib.hid hat1
  have HC1 := Lib.hid hcell1
  have HA2 := Lib.hid hat2
  have HC2 := Lib.hid hcell2
  clear hat1 hcell1 hat2 hcell2 hl hm
  obtain ⟨a1, c1, l⟩ := l
  obtain ⟨a2, c2, m⟩ := m
  dsimp only at hll hml HA1 HC1 HA2 HC2
  by_cases hn : l.length = m.length
  rotate_left
  · have HE : Hid (false = eqB l m) := Lib.hid (eqB_no (fun e => hn (by rw [e]))).symm
    have hn' : ((l.length : Int) != m.length) = true := by rw [bne_iff_ne]; omega
    have hn2 : (l.length != m.length) = true := by rw [bne_iff_ne]; exact hn
    clear hn
    go_enter Try.func18, Try.ntmps18
    go_wp2
    go_ret
    exact ⟨ret_bool HE.out, Below.refl _ _⟩
  have HN := Lib.hid hn
  have hn' : ((l.length : Int) != m.length) = false := by rw [bne_eq_false_iff_eq]; omega
  have hn2 : (l.length != m.length) = false := by rw [bne_eq_false_iff_eq]; exact hn
  clear hn
  go_enter Try.func18, Try.ntmps18
  go_wp2
  go_loopw [5, 13] (fun _ i wr => ∃ k n : Nat, i = .int .i64 k ∧ k ≤ l.length ∧ (∀ j, j < k → l[j]? = m[j]?) ∧ wr = w.drewN n) (fun _ i _ => l.length - (intOf i).toNat)
  case atStart => exact ⟨0, 0, rfl, Nat.zero_le _, fun j h => by omega, rfl⟩
  case round =>
    obtain ⟨k, n, rfl, hk, hj, rfl⟩ := hrel
    have HJ := Lib.hid hj
    clear hj
    by_cases hlt : k < l.length
    · obtain ⟨x, hx⟩ := get_lt hlt
      have hlm : k < m.length := by have := HN.out; omega
      obtain ⟨y, hy⟩ := get_lt hlm
      obtain ⟨rfl, hb1⟩ := HA1.out (by omega)
      obtain ⟨rfl, hb2⟩ := HA2.out (by omega)
      have g1 := int_cells HC1.out hx
      have g2 := int_cells HC2.out hy
      have HX := Lib.hid hx
      have HY := Lib.hid hy
      have HLT := Lib.hid hlt
      clear hx hy hb1 hb2
      by_cases hxy : x = y
      · have HXY := Lib.hid hxy
        have q1 : (x != y) = false := by rw [hxy]; exact bne_self_eq_false y
        clear hxy
        go_wp2
        go_quiet (fail)
        go_wp2
        go_roundw
        case rel =>
          refine ⟨k + 1, _, by go_num, HLT.out, fun j hj => ?_, rfl⟩
          rcases Nat.lt_or_ge j k with h | h
          · exact HJ.out j h
          · obtain rfl : j = k := by omega
            rw [HX.out, HY.out, HXY.out]
        case measure => simp [intOf]; have := HLT.out; omega
      · have HE : Hid (false = eqB l m) := Lib.hid (eqB_no (not_lists HX.out HY.out hxy)).symm
        have q1 : (x != y) = true := by rw [bne_iff_ne]; exact hxy
        clear hxy
        go_wp2
        go_quiet (fail)
        go_wp2
        go_ret
        exact ⟨ret_bool HE.out, by rw [drewN_add]; exact bel_drewN _ _⟩
    · have HE : Hid (true = eqB l m) := Lib.hid (eqB_yes (eq_lists HN.out (fun j hj => HJ.out j (by omega)))).symm
      clear hk
      go_wp2
      go_ret
      exact ⟨ret_bool HE.out, bel_drewN _ _⟩

set_option maxHeartbeats 2000000 in
theorem eqint_walk (l m : Sl Int) (w : World) (hl : Rows (intD .i64) w l) (hm : Rows (intD .i64) w m) :
    Calls Try.prog 19 #[.slice l.a l.l.length l.c, .slice m.a m.l.length m.c] w fun e w' => e = .returned (.bool (eqB l.l m.l)) ∧ Below w.heap.size w w' := by
  have hll := hl.len
  have hml := hm.len
  obtain ⟨b1, o1, hat1, hcell1⟩ := hl.at'
  obtain ⟨b2, o2, hat2, hcell2⟩ := hm.at'
  have HA1 := Lib.hid hat1
  have HC1 := Lib.hid hcell1
  have HA2 := Lib.hid hat2
  have HC2 := Lib.hid hcell2
  clear hat1 hcell1 hat2 hcell2 hl hm
  obtain ⟨a1, c1, l⟩ := l
  obtain ⟨a2, c2, m⟩ := m
  dsimp only at hll hml HA1 HC1 HA2 HC2
  by_cases hn : l.length = m.length
  rotate_left
  · have HE : Hid (false = eqB l m) := Lib.hid (eqB_no (fun e => hn (by rw [e]))).symm
    have hn' : ((l.length : Int) != m.length) = true := by rw [bne_iff_ne]; omega
    have hn2 : (l.length != m.length) = true := by rw [bne_iff_ne]; exact hn
    clear hn
    go_enter Try.func19, Try.ntmps19
    go_wp2
    go_ret
    exact ⟨ret_bool HE.out, Below.refl _ _⟩
  have HN := Lib.hid hn
  have hn' : ((l.length : Int) != m.length) = false := by rw [bne_eq_false_iff_eq]; omega
  have hn2 : (l.length != m.length) = false := by rw [bne_eq_false_iff_eq]; exact hn
  clear hn
  go_enter Try.func19, Try.ntmps19
  go_wp2
  go_loopw [5, 13] (fun _ i wr => ∃ k n : Nat, i = .int .i64 k ∧ k ≤ l.length ∧ (∀ j, j < k → l[j]? = m[j]?) ∧ wr = w.drewN n) (fun _ i _ => l.length - (intOf i).toNat)
  case atStart => exact ⟨0, 0, rfl, Nat.zero_le _, fun j h => by omega, rfl⟩
  case round =>
    obtain ⟨k, n, rfl, hk, hj, rfl⟩ := hrel
    have HJ := Lib.hid hj
    clear hj
    by_cases hlt : k < l.length
    · obtain ⟨x, hx⟩ := get_lt hlt
      have hlm : k < m.length := by have := HN.out; omega
      obtain ⟨y, hy⟩ := get_lt hlm
      obtain ⟨rfl, hb1⟩ := HA1.out (by omega)
      obtain ⟨rfl, hb2⟩ := HA2.out (by omega)
      have g1 := int_cells HC1.out hx
      have g2 := int_cells HC2.out hy
      have HX := Lib.hid hx
      have HY := Lib.hid hy
      have HLT := Lib.hid hlt
      clear hx hy hb1 hb2
      by_cases hxy : x = y
      · have HXY := Lib.hid hxy
        have q1 : (x != y) = false := by rw [hxy]; exact bne_self_eq_false y
        clear hxy
        go_wp2
        go_quiet (fail)
        go_wp2
        go_roundw
        case rel =>
          refine ⟨k + 1, _, by go_num, HLT.out, fun j hj => ?_, rfl⟩
          rcases Nat.lt_or_ge j k with h | h
          · exact HJ.out j h
          · obtain rfl : j = k := by omega
            rw [HX.out, HY.out, HXY.out]
        case measure => simp [intOf]; have := HLT.out; omega
      · have HE : Hid (false = eqB l m) := Lib.hid (eqB_no (not_lists HX.out HY.out hxy)).symm
        have q1 : (x != y) = true := by rw [bne_iff_ne]; exact hxy
        clear hxy
        go_wp2
        go_quiet (fail)
        go_wp2
        go_ret
        exact ⟨ret_bool HE.out, by rw [drewN_add]; exact bel_drewN _ _⟩
    · have HE : Hid (true = eqB l m) := Lib.hid (eqB_yes (eq_lists HN.out (fun j hj => HJ.out j (by omega)))).symm
      clear hk
      go_wp2
      go_ret
      exact ⟨ret_bool HE.out, bel_drewN _ _⟩

end Go.Proofs.Yteagpjcflcahoaa
