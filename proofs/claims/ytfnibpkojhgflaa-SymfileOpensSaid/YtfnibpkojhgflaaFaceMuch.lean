/- Contract: has a face more than is gone through. -/
import Derived.Test.YtfnibpkojhgflaaFaceClosed
namespace Go.Proofs.Ytfnibpkojhgflaa
set_option linter.unusedVariables false
set_option linter.unusedSimpArgs false
open Go.RowKit

def anyF (p : TD → Bool) (f : Fc) : Bool := f.d.types.any p
theorem rows_fields {w : World} {l2 : List FT} {b o : Nat} (h : RowAt ftD w b o l2) {j : Nat} {x : FT} (hx : l2[j]? = some x) : w.cell? ⟨b, o + j * 6 + 5, none⟩ = some x.fields.val := h j x hx 5 _ rfl
theorem rows_params {w : World} {l2 : List FO} {b o : Nat} (h : RowAt foD w b o l2) {j : Nat} {x : FO} (hx : l2[j]? = some x) : w.cell? ⟨b, o + j * 6 + 5, none⟩ = some x.params.val := h j x hx 5 _ rfl
theorem much_yes1 {f : Fc} (h : 40 < f.imps.l.length ∨ 300 < f.types.l.length ∨ 1000 < f.objs.l.length) : muchF f.d = true := by
  unfold muchF
  rw [decide_eq_true (by show 40 < f.imps.l.length ∨ 300 < (f.types.l.map FT.d).length ∨ 1000 < (f.objs.l.map FO.d).length; rw [List.length_map, List.length_map]; exact h)]; rfl
theorem much_yes2 {f : Fc} {j : Nat} {x : FT} (hx : f.types.l[j]? = some x) (h : 120 < x.fields.l.length) : muchF f.d = true := by
  unfold muchF
  have : f.d.types.any (fun t => decide (120 < t.fields.length)) = true := by
    rw [List.any_eq_true]
    exact ⟨x.d, List.mem_map.2 ⟨x, List.mem_of_getElem? hx, rfl⟩, decide_eq_true h⟩
  rw [this, Bool.or_true]; rfl
theorem much_yes3 {f : Fc} {j : Nat} {x : FO} (hx : f.objs.l[j]? = some x) (h : 40 < x.params.l.length) : muchF f.d = true := by
  unfold muchF
  have : f.d.objs.any (fun t => decide (40 < t.params.length)) = true := by
    rw [List.any_eq_true]
    exact ⟨x.d, List.mem_map.2 ⟨x, List.mem_of_getElem? hx, rfl⟩, decide_eq_true h⟩
  rw [this, Bool.or_true]
theorem much_no {f : Fc} (h : ¬ (40 < f.imps.l.length ∨ 300 < f.types.l.length ∨ 1000 < f.objs.l.length)) (h2 : ∀ (j : Nat) (x : FT), f.types.l[j]? = some x → ¬ 120 < x.fields.l.length) (h3 : ∀ (j : Nat) (x : FO), f.objs.l[j]? = some x → ¬ 40 < x.params.l.length) : muchF f.d = false := by
  unfold muchF
  rw [decide_eq_false (by show ¬ (40 < f.imps.l.length ∨ 300 < (f.types.l.map FT.d).length ∨ 1000 < (f.objs.l.map FO.d).length); rw [List.length_map, List.length_map]; exact h)]
  have e2 : f.d.types.any (fun t => decide (120 < t.fields.length)) = false := by
    rw [Bool.eq_false_iff]; intro hh
    rw [List.any_eq_true] at hh
    obtain ⟨t, ht, hd⟩ := hh
    obtain ⟨x, hx, rfl⟩ := List.mem_map.1 ht
    obtain ⟨j, hj⟩ := List.mem_iff_getElem?.1 hx
    exact h2 j x hj (of_decide_eq_true hd)
  have e3 : f.d.objs.any (fun t => decide (40 < t.params.length)) = false := by
    rw [Bool.eq_false_iff]; intro hh
    rw [List.any_eq_true] at hh
    obtain ⟨t, ht, hd⟩ := hh
    obtain ⟨x, hx, rfl⟩ := List.mem_map.1 ht
    obtain ⟨j, hj⟩ := List.mem_iff_getElem?.1 hx
    exact h3 j x hj (of_decide_eq_true hd)
  rw [e2, e3]; rfl

set_option maxRecDepth 100000 in
set_option maxHeartbeats 4000000 in
theorem muchF_walk (f : Fc) (w : World) (h : f.Rd w) :
    Calls Try.prog 9 #[f.val] w fun e' w' => e' = .returned (.bool (muchF f.d)) ∧ Below w.heap.size w w' := by
  have i1 := h.imps.len
  have i2 := h.types.len
  have i3 := h.objs.len
  obtain ⟨b2, o2, hat2, hcell2⟩ := h.types.at'
  obtain ⟨b3, o3, hat3, hcell3⟩ := h.objs.at'
  have HF2 := Lib.hid (fun (j : Nat) (x : FT) (hx : f.types.l[j]? = some x) => (h.types.ok hx).2.2.2.2.len)
  have HF3 := Lib.hid (fun (j : Nat) (x : FO) (hx : f.objs.l[j]? = some x) => (h.objs.ok hx).2.2.2.2.len)
  have HY1 := Lib.hid (much_yes1 (f := f))
  have HY2 := Lib.hid (fun (j : Nat) (x : FT) => much_yes2 (f := f) (j := j) (x := x))
  have HY3 := Lib.hid (fun (j : Nat) (x : FO) => much_yes3 (f := f) (j := j) (x := x))
  have HNO := Lib.hid (much_no (f := f))
  have HAT2 := Lib.hid hat2
  have HAT3 := Lib.hid hat3
  have HC2 := Lib.hid hcell2
  have HC3 := Lib.hid hcell3
  clear h hat2 hat3 hcell2 hcell3
  obtain ⟨r, hr⟩ : ∃ r, r = muchF f.d := ⟨_, rfl⟩
  rw [← hr] at HY1 HY2 HY3 HNO ⊢
  clear hr
  obtain ⟨nm, ⟨a1, c1, l1⟩, ⟨a2, c2, l2⟩, ⟨a3, c3, l3⟩⟩ := f
  show Calls _ _ #[.agg #[.string nm, .slice a1 l1.length c1, .slice a2 l2.length c2, .slice a3 l3.length c3]] w _
  dsimp only at i1 i2 i3 HAT2 HAT3 HC2 HC3 HF2 HF3 HY1 HY2 HY3 HNO
  by_cases hbig : 40 < (l1.length : Int) ∨ 300 < (l2.length : Int) ∨ 1000 < (l3.length : Int)
  · obtain rfl : r = true := HY1.out (by omega)
    rcases hbig with hb | hb | hb
    all_goals (go_enter Try.func9, Try.ntmps9; go_wp2)
    all_goals (go_ret; exact ⟨rfl, bel1 _ _⟩)
  · have d1 : decide (40 < (l1.length : Int)) = false := decide_eq_false (by omega)
    have d2 : decide (300 < (l2.length : Int)) = false := decide_eq_false (by omega)
    have d3 : decide (1000 < (l3.length : Int)) = false := decide_eq_false (by omega)
    have HS : Hid (l1.length ≤ 40 ∧ l2.length ≤ 300 ∧ l3.length ≤ 1000) := Lib.hid (by omega)
    have HBW := Lib.hid (bel1 w (.cells #[.string nm, .slice a1 l1.length c1, .slice a2 l2.length c2, .slice a3 l3.length c3] 26))
    clear hbig
    go_enter Try.func9, Try.ntmps9
    go_wp2
    go_loop [3] (fun i => ∃ k : Nat, i = .int .i64 k ∧ k ≤ l2.length ∧ ∀ (j : Nat) (x : FT), j < k → l2[j]? = some x → ¬ 120 < x.fields.l.length) (fun i => l2.length - (intOf i).toNat)
    case atStart => exact ⟨0, rfl, Nat.zero_le _, fun j x h => by omega⟩
    case round =>
      obtain ⟨k, rfl, hk, hj⟩ := hrel
      have HJ := Lib.hid hj
      clear hj
      by_cases hlt : k < l2.length
      · obtain ⟨⟨fo, le, si, ba, ⟨fa, fcc, fl⟩⟩, hx⟩ := get_lt hlt
        obtain ⟨rfl, hb⟩ := HAT2.out (by omega)
        have c0 := (HBW.out.cell (p := ⟨b2, o2 + k * 6 + 5, none⟩) hb).trans ((rows_fields HC2.out hx).trans (show _ = some (.slice fa fl.length fcc) from rfl))
        have hf := HF2.out k _ hx
        dsimp only at hf
        have HX := Lib.hid hx
        have HLT := Lib.hid hlt
        clear hx hb
        by_cases hq : (120 : Int) < fl.length
        · obtain rfl : r = true := HY2.out k _ HX.out (by dsimp only; omega)
          go_wp2
          go_ret
          exact ⟨rfl, HBW.out⟩
        · have HQ := Lib.hid hq
          go_wp2
          go_round
          case rel =>
            refine ⟨k + 1, by go_num, HLT.out, fun j x hj hx => ?_⟩
            rcases Nat.lt_or_ge j k with h | h
            · exact HJ.out j x h hx
            · obtain rfl : j = k := by omega
              rw [HX.out] at hx
              obtain rfl := Option.some.inj hx
              have := HQ.out
              dsimp only
              omega
          case measure => simp [intOf]; have := HLT.out; omega
      · obtain rfl : k = l2.length := by omega
        clear hk hlt
        go_wp2
        go_loop [4] (fun i => ∃ k : Nat, i = .int .i64 k ∧ k ≤ l3.length ∧ ∀ (j : Nat) (x : FO), j < k → l3[j]? = some x → ¬ 40 < x.params.l.length) (fun i => l3.length - (intOf i).toNat)
        case atStart => exact ⟨0, rfl, Nat.zero_le _, fun j x h => by omega⟩
        case round =>
          obtain ⟨k, rfl, hk, hj⟩ := hrel
          have HK := Lib.hid hj
          clear hj
          by_cases hlt : k < l3.length
          · obtain ⟨⟨cl, on, ba, va, ⟨fa, fcc, fl⟩⟩, hx⟩ := get_lt hlt
            obtain ⟨rfl, hb⟩ := HAT3.out (by omega)
            have c0 := (HBW.out.cell (p := ⟨b3, o3 + k * 6 + 5, none⟩) hb).trans ((rows_params HC3.out hx).trans (show _ = some (.slice fa fl.length fcc) from rfl))
            have hf := HF3.out k _ hx
            dsimp only at hf
            have HX := Lib.hid hx
            have HLT := Lib.hid hlt
            clear hx hb
            by_cases hq : (40 : Int) < fl.length
            · obtain rfl : r = true := HY3.out k _ HX.out (by dsimp only; omega)
              go_wp2
              go_ret
              exact ⟨rfl, HBW.out⟩
            · have HQ := Lib.hid hq
              go_wp2
              go_round
              case rel =>
                refine ⟨k + 1, by go_num, HLT.out, fun j x hj hx => ?_⟩
                rcases Nat.lt_or_ge j k with h | h
                · exact HK.out j x h hx
                · obtain rfl : j = k := by omega
                  rw [HX.out] at hx
                  obtain rfl := Option.some.inj hx
                  have := HQ.out
                  dsimp only
                  omega
              case measure => simp [intOf]; have := HLT.out; omega
          · obtain rfl : k = l3.length := by omega
            clear hk hlt
            go_wp2
            go_ret
            have hs := HS.out
            refine ⟨ret_bool (HNO.out (by omega) (fun j x hx => HJ.out j x (List.getElem?_eq_some_iff.1 hx).1 hx) (fun j x hx => HK.out j x (List.getElem?_eq_some_iff.1 hx).1 hx)).symm, HBW.out⟩
end Go.Proofs.Ytfnibpkojhgflaa
