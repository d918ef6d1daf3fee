/- Contracts: slices.IndexFunc and slices.ContainsFunc over fields and over parameters, with the closures that symfile's mayType and mayObject hand them. Printed by bin/gen_symhas.py. -/
import Derived.Test.YtfnibpkojhgflaaFaceClosed
import Derived.Test.YtfnibpkojhgflaaMixR
namespace Go.Proofs.Ytfnibpkojhgflaa
set_option linter.unusedVariables false
set_option linter.unusedSimpArgs false
open Go.RowKit

/-- 's[:k]'. -/
theorem Rows.take' {α : Type} {D : Dat α} {w : World} {s : Sl α} (h : Rows D w s) (k : Nat) : Rows D w ⟨s.a, s.c, s.l.take k⟩ := by
  obtain ⟨⟨⟨b, o, h1, h2⟩, h3, h4, h5⟩, hal⟩ := h
  have hfl : ∀ (j : Nat) (u : Value), ((s.l.take k).flatMap D.cells)[j]? = some u → (s.l.flatMap D.cells)[j]? = some u := by
    intro j u hj
    have e : s.l.flatMap D.cells = (s.l.take k).flatMap D.cells ++ (s.l.drop k).flatMap D.cells := by rw [← List.flatMap_append, List.take_append_drop]
    rw [e, List.getElem?_append_left (List.getElem?_eq_some_iff.1 hj).1]; exact hj
  refine ⟨⟨⟨b, o, fun h0 => h1 ?_, fun j u hj => h2 j u (hfl j u hj)⟩, fun hn => ?_, ?_, h5⟩, fun x hx => hal x (List.mem_of_mem_take hx)⟩
  · rw [flat_len] at h0 ⊢
    have hk : (s.l.take k).length ≤ s.l.length := by rw [List.length_take]; omega
    exact Nat.lt_of_lt_of_le h0 (Nat.mul_le_mul_right _ hk)
  · obtain ⟨q1, q2⟩ := h3 hn
    refine ⟨by rw [List.length_take]; show min k s.l.length = 0; omega, q2⟩
  · show (s.l.take k).length ≤ s.c
    rw [List.length_take]; omega

/-- where one stands first. -/
def WhereP {α : Type} (m : List α) (p : α → Bool) (r : Int) : Prop := (r = -1 ∧ ∀ (j : Nat) (y : α), m[j]? = some y → p y = false) ∨ (0 ≤ r ∧ ∃ (j : Nat) (y : α), m[j]? = some y ∧ p y = true)
theorem where_any {α : Type} {m : List α} {p : α → Bool} {r : Int} (h : WhereP m p r) : decide (0 ≤ r) = m.any p := by
  rcases h with ⟨rfl, h⟩ | ⟨h0, j, y, hy, h⟩
  · symm
    rw [show decide ((0 : Int) ≤ -1) = false from rfl, List.any_eq_false]
    intro y hy
    obtain ⟨j, hj⟩ := List.mem_iff_getElem?.1 hy
    rw [h j y hj]; decide
  · rw [decide_eq_true h0]; symm
    rw [List.any_eq_true]
    exact ⟨y, List.mem_of_getElem? hy, h⟩


set_option maxHeartbeats 2000000 in
theorem indexFld_walk (m : Sl Fld) (cap : Value) (p : Fld → Bool) (w : World) (hm : Rows fldD w m)
    (hp : ∀ (x : Fld) (W : World), x ∈ m.l → Below w.heap.size w W → Calls Try.prog 58 #[.agg (fldD.cells x).toArray, cap] W fun e w' => e = .returned (.bool (p x)) ∧ Below W.heap.size W w') :
    Calls Try.prog 74 #[m.val, .func (.func 58) #[] #[cap]] w fun e w' => (∃ r : Int, e = .returned (.int .i64 r) ∧ WhereP m.l p r) ∧ Below w.heap.size w w' := by
  have hlen := hm.len
  obtain ⟨b, o, hat, hcell⟩ := hm.at'
  have HAt := Lib.hid hat
  have HC := Lib.hid hcell
  have HP := Lib.hid hp
  clear hat hcell hm hp
  obtain ⟨la, lc, m⟩ := m
  show Calls _ _ #[.slice la m.length lc, .func (.func 58) #[] #[cap]] w _
  dsimp only at HAt HC hlen HP ⊢
  go_enter Try.func74, Try.ntmps74
  go_wp2_with fail
  go_loopw [5, 8] (fun _ i wr => ∃ k : Nat, k ≤ m.length ∧ i = .int .i64 k ∧ (∀ (j : Nat) (y : Fld), j < k → m[j]? = some y → p y = false) ∧ Below w.heap.size w wr) (fun _ i _ => m.length - (intOf i).toNat)
  case atStart => exact ⟨0, Nat.zero_le _, rfl, fun j y h => by omega, Below.refl _ _⟩
  case round =>
    obtain ⟨k, hk, rfl, hj, hB⟩ := hrel
    have HJ := Lib.hid hj
    have HB := Lib.hid hB
    clear hj hB
    by_cases hlt : k < m.length
    · obtain ⟨⟨yn, yo, ⟨ym, yi⟩⟩, hy⟩ := get_lt hlt
      have HY := Lib.hid hy
      obtain ⟨rfl, hb⟩ := HAt.out (by omega)
      have HCO : Hid (∀ (q : Nat) (v : Value), ([.string yn, .int .i64 yo, .int .i64 ym, .int .i64 yi] : List Value)[q]? = some v → wr.cell? ⟨b, o + k * 4 + q, none⟩ = some v) := Lib.hid (fun q v hv => (HB.out.cell (p := ⟨b, o + k * 4 + q, none⟩) hb).trans (HC.out k _ hy q v hv))
      have HQ : Hid (∀ W, Below w.heap.size w W → Calls Try.prog 58 #[.agg #[.string yn, .int .i64 yo, .int .i64 ym, .int .i64 yi], cap] W fun e w' => e = .returned (.bool (p ⟨yn, yo, ⟨ym, yi⟩⟩)) ∧ Below W.heap.size W w') := Lib.hid (fun W k => HP.out ⟨yn, yo, ⟨ym, yi⟩⟩ W (List.mem_of_getElem? hy) k)
      have HLT := Lib.hid hlt
      clear hy hb
      have f2 : True := trivial
      have f3 : True := trivial
      cases he : p ⟨yn, yo, ⟨ym, yi⟩⟩ with
      | true =>
        rw [he] at HQ
        have HW : Hid (WhereP m p k) := Lib.hid (.inr ⟨by omega, k, _, HY.out, he⟩)
        clear he
        go_wp2_with (first | (have _f := f2; refine wpList_load_mid rfl 37 (.tmp 14) rfl b (o + k * 4) rfl [.string yn, .int .i64 yo, .int .i64 ym, .int .i64 yi] _ HCO.out Try.underlying37 rfl (by kernel_rfl) ?_; clear _f f2) | (have _f := f3; refine (HQ.out _ HB.out).mono ?_; rintro e w1 ⟨rfl, hb⟩; have HB1 := Lib.hid (bel_then HB.out hb); clear hb _f f3))
        go_ret
        exact ⟨⟨_, rfl, HW.out⟩, HB1.out⟩
      | false =>
        rw [he] at HQ
        have HE := Lib.hid he
        clear he
        go_wp2_with (first | (have _f := f2; refine wpList_load_mid rfl 37 (.tmp 14) rfl b (o + k * 4) rfl [.string yn, .int .i64 yo, .int .i64 ym, .int .i64 yi] _ HCO.out Try.underlying37 rfl (by kernel_rfl) ?_; clear _f f2) | (have _f := f3; refine (HQ.out _ HB.out).mono ?_; rintro e w1 ⟨rfl, hb⟩; have HB1 := Lib.hid (bel_then HB.out hb); clear hb _f f3))
        go_roundw
        case rel =>
          refine ⟨k + 1, HLT.out, by go_num, fun j y hj hy => ?_, HB1.out⟩
          rcases Nat.lt_or_ge j k with h | h
          · exact HJ.out j y h hy
          · obtain rfl : j = k := by omega
            rw [HY.out] at hy
            obtain rfl := Option.some.inj hy
            exact HE.out
        case measure => simp [intOf]; have := HLT.out; omega
    · have HW : Hid (WhereP m p (-1)) := Lib.hid (.inl ⟨rfl, fun j y hy => HJ.out j y (by have := (List.getElem?_eq_some_iff.1 hy).1; omega) hy⟩)
      clear hk
      go_wp2
      go_ret
      exact ⟨⟨_, rfl, HW.out⟩, HB.out⟩

theorem containsFld_walk (m : Sl Fld) (cap : Value) (p : Fld → Bool) (w : World) (hm : Rows fldD w m)
    (hp : ∀ (x : Fld) (W : World), x ∈ m.l → Below w.heap.size w W → Calls Try.prog 58 #[.agg (fldD.cells x).toArray, cap] W fun e w' => e = .returned (.bool (p x)) ∧ Below W.heap.size W w') :
    Calls Try.prog 57 #[m.val, .func (.func 58) #[] #[cap]] w fun e w' => e = .returned (.bool (m.l.any p)) ∧ Below w.heap.size w w' := by
  have HI := Lib.hid (indexFld_walk m cap p w hm hp)
  clear hm hp
  obtain ⟨la, lc, m⟩ := m
  show Calls _ _ #[.slice la m.length lc, .func (.func 58) #[] #[cap]] w _
  have HJ : Hid (Calls Try.prog 74 #[.slice la m.length lc, .func (.func 58) #[] #[cap]] w fun e w' => (∃ r : Int, e = .returned (.int .i64 r) ∧ WhereP m p r) ∧ Below w.heap.size w w') := HI
  clear HI
  go_enter Try.func57, Try.ntmps57
  go_wp2_with (refine HJ.out.mono ?_; rintro e w1 ⟨⟨r, rfl, hr⟩, hb⟩; have HR := Lib.hid (where_any hr); have HB := Lib.hid hb; clear hr hb)
  go_ret
  exact ⟨ret_bool HR.out, HB.out⟩


set_option maxHeartbeats 2000000 in
theorem indexPrm_walk (m : Sl Prm) (cap : Value) (p : Prm → Bool) (w : World) (hm : Rows prmD w m)
    (hp : ∀ (x : Prm) (W : World), x ∈ m.l → Below w.heap.size w W → Calls Try.prog 60 #[.agg (prmD.cells x).toArray, cap] W fun e w' => e = .returned (.bool (p x)) ∧ Below W.heap.size W w') :
    Calls Try.prog 75 #[m.val, .func (.func 60) #[] #[cap]] w fun e w' => (∃ r : Int, e = .returned (.int .i64 r) ∧ WhereP m.l p r) ∧ Below w.heap.size w w' := by
  have hlen := hm.len
  obtain ⟨b, o, hat, hcell⟩ := hm.at'
  have HAt := Lib.hid hat
  have HC := Lib.hid hcell
  have HP := Lib.hid hp
  clear hat hcell hm hp
  obtain ⟨la, lc, m⟩ := m
  show Calls _ _ #[.slice la m.length lc, .func (.func 60) #[] #[cap]] w _
  dsimp only at HAt HC hlen HP ⊢
  go_enter Try.func75, Try.ntmps75
  go_wp2_with fail
  go_loopw [5, 8] (fun _ i wr => ∃ k : Nat, k ≤ m.length ∧ i = .int .i64 k ∧ (∀ (j : Nat) (y : Prm), j < k → m[j]? = some y → p y = false) ∧ Below w.heap.size w wr) (fun _ i _ => m.length - (intOf i).toNat)
  case atStart => exact ⟨0, Nat.zero_le _, rfl, fun j y h => by omega, Below.refl _ _⟩
  case round =>
    obtain ⟨k, hk, rfl, hj, hB⟩ := hrel
    have HJ := Lib.hid hj
    have HB := Lib.hid hB
    clear hj hB
    by_cases hlt : k < m.length
    · obtain ⟨⟨yv, ⟨ym, yi⟩⟩, hy⟩ := get_lt hlt
      have HY := Lib.hid hy
      obtain ⟨rfl, hb⟩ := HAt.out (by omega)
      have HCO : Hid (∀ (q : Nat) (v : Value), ([.bool yv, .int .i64 ym, .int .i64 yi] : List Value)[q]? = some v → wr.cell? ⟨b, o + k * 3 + q, none⟩ = some v) := Lib.hid (fun q v hv => (HB.out.cell (p := ⟨b, o + k * 3 + q, none⟩) hb).trans (HC.out k _ hy q v hv))
      have HQ : Hid (∀ W, Below w.heap.size w W → Calls Try.prog 60 #[.agg #[.bool yv, .int .i64 ym, .int .i64 yi], cap] W fun e w' => e = .returned (.bool (p ⟨yv, ⟨ym, yi⟩⟩)) ∧ Below W.heap.size W w') := Lib.hid (fun W k => HP.out ⟨yv, ⟨ym, yi⟩⟩ W (List.mem_of_getElem? hy) k)
      have HLT := Lib.hid hlt
      clear hy hb
      have f2 : True := trivial
      have f3 : True := trivial
      cases he : p ⟨yv, ⟨ym, yi⟩⟩ with
      | true =>
        rw [he] at HQ
        have HW : Hid (WhereP m p k) := Lib.hid (.inr ⟨by omega, k, _, HY.out, he⟩)
        clear he
        go_wp2_with (first | (have _f := f2; refine wpList_load_mid rfl 97 (.tmp 14) rfl b (o + k * 3) rfl [.bool yv, .int .i64 ym, .int .i64 yi] _ HCO.out Try.underlying97 rfl (by kernel_rfl) ?_; clear _f f2) | (have _f := f3; refine (HQ.out _ HB.out).mono ?_; rintro e w1 ⟨rfl, hb⟩; have HB1 := Lib.hid (bel_then HB.out hb); clear hb _f f3))
        go_ret
        exact ⟨⟨_, rfl, HW.out⟩, HB1.out⟩
      | false =>
        rw [he] at HQ
        have HE := Lib.hid he
        clear he
        go_wp2_with (first | (have _f := f2; refine wpList_load_mid rfl 97 (.tmp 14) rfl b (o + k * 3) rfl [.bool yv, .int .i64 ym, .int .i64 yi] _ HCO.out Try.underlying97 rfl (by kernel_rfl) ?_; clear _f f2) | (have _f := f3; refine (HQ.out _ HB.out).mono ?_; rintro e w1 ⟨rfl, hb⟩; have HB1 := Lib.hid (bel_then HB.out hb); clear hb _f f3))
        go_roundw
        case rel =>
          refine ⟨k + 1, HLT.out, by go_num, fun j y hj hy => ?_, HB1.out⟩
          rcases Nat.lt_or_ge j k with h | h
          · exact HJ.out j y h hy
          · obtain rfl : j = k := by omega
            rw [HY.out] at hy
            obtain rfl := Option.some.inj hy
            exact HE.out
        case measure => simp [intOf]; have := HLT.out; omega
    · have HW : Hid (WhereP m p (-1)) := Lib.hid (.inl ⟨rfl, fun j y hy => HJ.out j y (by have := (List.getElem?_eq_some_iff.1 hy).1; omega) hy⟩)
      clear hk
      go_wp2
      go_ret
      exact ⟨⟨_, rfl, HW.out⟩, HB.out⟩

theorem containsPrm_walk (m : Sl Prm) (cap : Value) (p : Prm → Bool) (w : World) (hm : Rows prmD w m)
    (hp : ∀ (x : Prm) (W : World), x ∈ m.l → Below w.heap.size w W → Calls Try.prog 60 #[.agg (prmD.cells x).toArray, cap] W fun e w' => e = .returned (.bool (p x)) ∧ Below W.heap.size W w') :
    Calls Try.prog 59 #[m.val, .func (.func 60) #[] #[cap]] w fun e w' => e = .returned (.bool (m.l.any p)) ∧ Below w.heap.size w w' := by
  have HI := Lib.hid (indexPrm_walk m cap p w hm hp)
  clear hm hp
  obtain ⟨la, lc, m⟩ := m
  show Calls _ _ #[.slice la m.length lc, .func (.func 60) #[] #[cap]] w _
  have HJ : Hid (Calls Try.prog 75 #[.slice la m.length lc, .func (.func 60) #[] #[cap]] w fun e w' => (∃ r : Int, e = .returned (.int .i64 r) ∧ WhereP m p r) ∧ Below w.heap.size w w') := HI
  clear HI
  go_enter Try.func59, Try.ntmps59
  go_wp2_with (refine HJ.out.mono ?_; rintro e w1 ⟨⟨r, rfl, hr⟩, hb⟩; have HR := Lib.hid (where_any hr); have HB := Lib.hid hb; clear hr hb)
  go_ret
  exact ⟨ret_bool HR.out, HB.out⟩

end Go.Proofs.Ytfnibpkojhgflaa
