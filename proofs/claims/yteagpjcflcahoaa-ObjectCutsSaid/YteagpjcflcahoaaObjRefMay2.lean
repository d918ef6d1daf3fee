/- Contract: the reference's May of an object. Printed by bin/gen_objrefmay.py. -/
import Derived.Test.YteagpjcflcahoaaObjRefMay
import Derived.Test.YteagpjcflcahoaaSepMore
import Derived.IntWalk
namespace Go.Proofs.Yteagpjcflcahoaa
set_option linter.unusedVariables false
set_option linter.unusedSimpArgs false
open Go.RowKit

theorem int_cell {k : IntKind} {w : World} {b o : Nat} {l : List Int} (h : RowAt (intD k) w b o l) {i : Nat} {x : Int} (hx : l[i]? = some x) : w.cell? ⟨b, o + i, none⟩ = some (.int k x) := by
  have := h i x hx 0 (.int k x) rfl
  rwa [show o + i * (intD k).size + 0 = o + i from by show o + i * 1 + 0 = _; omega] at this
theorem _root_.Go.RowKit.Below.drewN' {B : Nat} {w w' : World} (h : Below B w w') (n : Nat) : Below B w (w'.drewN n) := h.trans ⟨rfl, rfl, rfl, Nat.le_refl _, fun _ _ => rfl⟩
theorem before_zero {l : List Fix} {x : Int} : before (prevF l 0) x = true := rfl
theorem before_succ {l : List Fix} {i : Nat} (hi : 0 < i) {f : Fix} (hf : l[i - 1]? = some f) (x : Int) : before (prevF l i) x = decide (f.place < x) := by
  unfold prevF
  rw [if_neg (by omega), hf]; rfl

set_option maxRecDepth 100000 in
set_option maxHeartbeats 16000000 in
theorem refMay_walk (x : Obj) (w : World) (h : x.Rd w) :
    Calls Try.prog 11 #[x.val] w fun e w' => e = .returned (.bool (mayObj x.d)) ∧ Below w.heap.size w w' := by
  have i2 := h.imps.len
  have i4 := h.text.len
  have i5 := h.code.len
  have i6 := h.entries.len
  have i7 := h.fixups.len
  have HR := Lib.hid h
  obtain ⟨vl, vh⟩ := h.vars
  clear h
  obtain ⟨nm, ky, ⟨a2, c2, l2⟩, vs, ⟨a4, c4, l4⟩, ⟨a5, c5, l5⟩, ⟨a6, c6, l6⟩, ⟨a7, c7, l7⟩⟩ := x
  dsimp only at i2 i4 i5 i6 i7 vl vh
  obtain ⟨X, hX⟩ : ∃ X : OD, X = ⟨nm, ky, l2, vs, l4, l5, l6, l7⟩ := ⟨_, rfl⟩
  have HX := Lib.hid hX
  show Calls _ _ #[.agg #[.string nm, .int .u32 ky, .slice a2 l2.length c2, .int .i64 vs, .slice a4 l4.length c4, .slice a5 l5.length c5, .slice a6 l6.length c6, .slice a7 l7.length c7]] w fun e w' => e = .returned (.bool (mayObj ⟨nm, ky, l2, vs, l4, l5, l6, l7⟩)) ∧ _
  rw [← hX]
  clear hX
  have HMI := Lib.hid (fun (W : World) (k : Below w.heap.size w W) => refMayImports_bel nm ⟨a2, c2, l2⟩ W HR.out.name (HR.out.imps.bel k))
  dsimp only at HMI
  have f1 : True := trivial
  cases hmi : mayImps nm l2 with
  | false =>
    have HMV := Lib.hid hmi
    clear hmi
    have HV : Hid (false = mayObj X) := Lib.hid (by rw [HX.out]; exact (may_imps HMV.out).symm)
    go_enter Try.func11, Try.ntmps11
    go_wp2_with (have _f := f1; refine (HMI.out _ (bel1 _ _)).mono ?_; rw [HMV.out]; rintro e w1 ⟨rfl, hb⟩; have HB := Lib.hid (bel_then (bel1 _ _) hb); have HA := Lib.hid ((At.new w _ 29).bel hb); have hc3 := HA.out.cell 3; have hc4 := HA.out.cell 4; have hc5 := HA.out.cell 5; have hc6 := HA.out.cell 6; have hc7 := HA.out.cell 7; simp only [List.getElem?_toArray, List.getElem?_cons_succ, List.getElem?_cons_zero] at hc3 hc4 hc5 hc6 hc7; clear hb _f f1)
    go_ret
    exact ⟨ret_bool HV.out, HB.out⟩
  | true =>
  have HMV := Lib.hid hmi
  have HMVV := Lib.hid hmi
  clear hmi
  by_cases h0 : vs < 0
  · have HP := Lib.hid h0
    have hb0 : decide (vs < 0) = true := decide_eq_true h0
    clear h0
    have HV : Hid (false = mayObj X) := Lib.hid (by rw [HX.out]; exact (may_sizes (decide_eq_false (by dsimp only; have := HP.out; omega))).symm)
    go_enter Try.func11, Try.ntmps11
    go_wp2_with (have _f := f1; refine (HMI.out _ (bel1 _ _)).mono ?_; rw [HMV.out]; rintro e w1 ⟨rfl, hb⟩; have HB := Lib.hid (bel_then (bel1 _ _) hb); have HA := Lib.hid ((At.new w _ 29).bel hb); have hc3 := HA.out.cell 3; have hc4 := HA.out.cell 4; have hc5 := HA.out.cell 5; have hc6 := HA.out.cell 6; have hc7 := HA.out.cell 7; simp only [List.getElem?_toArray, List.getElem?_cons_succ, List.getElem?_cons_zero] at hc3 hc4 hc5 hc6 hc7; clear hb _f f1)
    go_ret
    exact ⟨ret_bool HV.out, HB.out⟩
  have HP0 := Lib.hid h0
  have hb0 : decide (vs < 0) = false := decide_eq_false h0
  clear h0
  have v0 : 0 ≤ vs := by have := HP0.out; omega
  by_cases h1 : 262144 < vs
  · have HP := Lib.hid h1
    have hb1 : decide (262144 < vs) = true := decide_eq_true h1
    clear h1
    have HV : Hid (false = mayObj X) := Lib.hid (by rw [HX.out]; exact (may_sizes (decide_eq_false (by dsimp only; have := HP.out; omega))).symm)
    go_enter Try.func11, Try.ntmps11
    go_wp2_with (have _f := f1; refine (HMI.out _ (bel1 _ _)).mono ?_; rw [HMV.out]; rintro e w1 ⟨rfl, hb⟩; have HB := Lib.hid (bel_then (bel1 _ _) hb); have HA := Lib.hid ((At.new w _ 29).bel hb); have hc3 := HA.out.cell 3; have hc4 := HA.out.cell 4; have hc5 := HA.out.cell 5; have hc6 := HA.out.cell 6; have hc7 := HA.out.cell 7; simp only [List.getElem?_toArray, List.getElem?_cons_succ, List.getElem?_cons_zero] at hc3 hc4 hc5 hc6 hc7; clear hb _f f1)
    go_ret
    exact ⟨ret_bool HV.out, HB.out⟩
  have HP1 := Lib.hid h1
  have hb1 : decide (262144 < vs) = false := decide_eq_false h1
  clear h1
  have v1 : vs ≤ 262144 := by have := HP1.out; omega
  by_cases h2 : vs % 4 ≠ 0
  · have HP := Lib.hid h2
    have hb2 : (vs % 4 != 0) = true := by simpa using h2
    clear h2
    have HV : Hid (false = mayObj X) := Lib.hid (by rw [HX.out]; exact (may_sizes (decide_eq_false (by dsimp only; have := HP.out; omega))).symm)
    go_enter Try.func11, Try.ntmps11
    go_wp2_with (have _f := f1; refine (HMI.out _ (bel1 _ _)).mono ?_; rw [HMV.out]; rintro e w1 ⟨rfl, hb⟩; have HB := Lib.hid (bel_then (bel1 _ _) hb); have HA := Lib.hid ((At.new w _ 29).bel hb); have hc3 := HA.out.cell 3; have hc4 := HA.out.cell 4; have hc5 := HA.out.cell 5; have hc6 := HA.out.cell 6; have hc7 := HA.out.cell 7; simp only [List.getElem?_toArray, List.getElem?_cons_succ, List.getElem?_cons_zero] at hc3 hc4 hc5 hc6 hc7; clear hb _f f1)
    go_ret
    exact ⟨ret_bool HV.out, HB.out⟩
  have HP2 := Lib.hid h2
  have hb2 : (vs % 4 != 0) = false := by simpa using h2
  clear h2
  by_cases h3 : (8192 : Int) < l4.length
  · have HP := Lib.hid h3
    have hb3 : decide ((8192 : Int) < l4.length) = true := decide_eq_true h3
    clear h3
    have HV : Hid (false = mayObj X) := Lib.hid (by rw [HX.out]; exact (may_sizes (decide_eq_false (by dsimp only; have := HP.out; omega))).symm)
    go_enter Try.func11, Try.ntmps11
    go_wp2_with (have _f := f1; refine (HMI.out _ (bel1 _ _)).mono ?_; rw [HMV.out]; rintro e w1 ⟨rfl, hb⟩; have HB := Lib.hid (bel_then (bel1 _ _) hb); have HA := Lib.hid ((At.new w _ 29).bel hb); have hc3 := HA.out.cell 3; have hc4 := HA.out.cell 4; have hc5 := HA.out.cell 5; have hc6 := HA.out.cell 6; have hc7 := HA.out.cell 7; simp only [List.getElem?_toArray, List.getElem?_cons_succ, List.getElem?_cons_zero] at hc3 hc4 hc5 hc6 hc7; clear hb _f f1)
    go_ret
    exact ⟨ret_bool HV.out, HB.out⟩
  have HP3 := Lib.hid h3
  have hb3 : decide ((8192 : Int) < l4.length) = false := decide_eq_false h3
  clear h3
  have v2 : (l4.length : Int) ≤ 8192 := by have := HP3.out; omega
  by_cases h4 : (l4.length : Int) % 4 ≠ 0
  · have HP := Lib.hid h4
    have hb4 : ((l4.length : Int) % 4 != 0) = true := by simpa using h4
    clear h4
    have HV : Hid (false = mayObj X) := Lib.hid (by rw [HX.out]; exact (may_sizes (decide_eq_false (by dsimp only; have := HP.out; omega))).symm)
    go_enter Try.func11, Try.ntmps11
    go_wp2_with (have _f := f1; refine (HMI.out _ (bel1 _ _)).mono ?_; rw [HMV.out]; rintro e w1 ⟨rfl, hb⟩; have HB := Lib.hid (bel_then (bel1 _ _) hb); have HA := Lib.hid ((At.new w _ 29).bel hb); have hc3 := HA.out.cell 3; have hc4 := HA.out.cell 4; have hc5 := HA.out.cell 5; have hc6 := HA.out.cell 6; have hc7 := HA.out.cell 7; simp only [List.getElem?_toArray, List.getElem?_cons_succ, List.getElem?_cons_zero] at hc3 hc4 hc5 hc6 hc7; clear hb _f f1)
    go_ret
    exact ⟨ret_bool HV.out, HB.out⟩
  have HP4 := Lib.hid h4
  have hb4 : ((l4.length : Int) % 4 != 0) = false := by simpa using h4
  clear h4
  by_cases h5 : 262144 < vs + l4.length
  · have HP := Lib.hid h5
    have hb5 : decide (262144 < vs + l4.length) = true := decide_eq_true h5
    clear h5
    have HV : Hid (false = mayObj X) := Lib.hid (by rw [HX.out]; exact (may_sizes (decide_eq_false (by dsimp only; have := HP.out; omega))).symm)
    go_enter Try.func11, Try.ntmps11
    go_wp2_with (have _f := f1; refine (HMI.out _ (bel1 _ _)).mono ?_; rw [HMV.out]; rintro e w1 ⟨rfl, hb⟩; have HB := Lib.hid (bel_then (bel1 _ _) hb); have HA := Lib.hid ((At.new w _ 29).bel hb); have hc3 := HA.out.cell 3; have hc4 := HA.out.cell 4; have hc5 := HA.out.cell 5; have hc6 := HA.out.cell 6; have hc7 := HA.out.cell 7; simp only [List.getElem?_toArray, List.getElem?_cons_succ, List.getElem?_cons_zero] at hc3 hc4 hc5 hc6 hc7; clear hb _f f1)
    go_ret
    exact ⟨ret_bool HV.out, HB.out⟩
  have HP5 := Lib.hid h5
  have hb5 : decide (262144 < vs + l4.length) = false := decide_eq_false h5
  clear h5
  by_cases h6 : (16384 : Int) < l5.length
  · have HP := Lib.hid h6
    have hb6 : decide ((16384 : Int) < l5.length) = true := decide_eq_true h6
    clear h6
    have HV : Hid (false = mayObj X) := Lib.hid (by rw [HX.out]; exact (may_counts (decide_eq_false (by dsimp only; have := HP.out; omega))).symm)
    go_enter Try.func11, Try.ntmps11
    go_wp2_with (have _f := f1; refine (HMI.out _ (bel1 _ _)).mono ?_; rw [HMV.out]; rintro e w1 ⟨rfl, hb⟩; have HB := Lib.hid (bel_then (bel1 _ _) hb); have HA := Lib.hid ((At.new w _ 29).bel hb); have hc3 := HA.out.cell 3; have hc4 := HA.out.cell 4; have hc5 := HA.out.cell 5; have hc6 := HA.out.cell 6; have hc7 := HA.out.cell 7; simp only [List.getElem?_toArray, List.getElem?_cons_succ, List.getElem?_cons_zero] at hc3 hc4 hc5 hc6 hc7; clear hb _f f1)
    go_ret
    exact ⟨ret_bool HV.out, HB.out⟩
  have HP6 := Lib.hid h6
  have hb6 : decide ((16384 : Int) < l5.length) = false := decide_eq_false h6
  clear h6
  have v3 : (l5.length : Int) ≤ 16384 := by have := HP6.out; omega
  by_cases h7 : (l6.length : Int) < 1
  · have HP := Lib.hid h7
    have HV : Hid (false = mayObj X) := Lib.hid (by rw [HX.out]; exact (may_counts (decide_eq_false (by dsimp only; have := HP.out; omega))).symm)
    go_enter Try.func11, Try.ntmps11
    go_wp2_with (have _f := f1; refine (HMI.out _ (bel1 _ _)).mono ?_; rw [HMV.out]; rintro e w1 ⟨rfl, hb⟩; have HB := Lib.hid (bel_then (bel1 _ _) hb); have HA := Lib.hid ((At.new w _ 29).bel hb); have hc3 := HA.out.cell 3; have hc4 := HA.out.cell 4; have hc5 := HA.out.cell 5; have hc6 := HA.out.cell 6; have hc7 := HA.out.cell 7; simp only [List.getElem?_toArray, List.getElem?_cons_succ, List.getElem?_cons_zero] at hc3 hc4 hc5 hc6 hc7; clear hb _f f1)
    go_ret
    exact ⟨ret_bool HV.out, HB.out⟩
  have HP7 := Lib.hid h7
  by_cases h8 : (201 : Int) < l6.length
  · have HP := Lib.hid h8
    have hb8 : decide ((201 : Int) < l6.length) = true := decide_eq_true h8
    clear h8
    have HV : Hid (false = mayObj X) := Lib.hid (by rw [HX.out]; exact (may_counts (decide_eq_false (by dsimp only; have := HP.out; omega))).symm)
    go_enter Try.func11, Try.ntmps11
    go_wp2_with (have _f := f1; refine (HMI.out _ (bel1 _ _)).mono ?_; rw [HMV.out]; rintro e w1 ⟨rfl, hb⟩; have HB := Lib.hid (bel_then (bel1 _ _) hb); have HA := Lib.hid ((At.new w _ 29).bel hb); have hc3 := HA.out.cell 3; have hc4 := HA.out.cell 4; have hc5 := HA.out.cell 5; have hc6 := HA.out.cell 6; have hc7 := HA.out.cell 7; simp only [List.getElem?_toArray, List.getElem?_cons_succ, List.getElem?_cons_zero] at hc3 hc4 hc5 hc6 hc7; clear hb _f f1)
    go_ret
    exact ⟨ret_bool HV.out, HB.out⟩
  have HP8 := Lib.hid h8
  have hb8 : decide ((201 : Int) < l6.length) = false := decide_eq_false h8
  clear h8
  by_cases h9 : (8192 : Int) < l7.length
  · have HP := Lib.hid h9
    have hb9 : decide ((8192 : Int) < l7.length) = true := decide_eq_true h9
    clear h9
    have HV : Hid (false = mayObj X) := Lib.hid (by rw [HX.out]; exact (may_counts (decide_eq_false (by dsimp only; have := HP.out; omega))).symm)
    go_enter Try.func11, Try.ntmps11
    go_wp2_with (have _f := f1; refine (HMI.out _ (bel1 _ _)).mono ?_; rw [HMV.out]; rintro e w1 ⟨rfl, hb⟩; have HB := Lib.hid (bel_then (bel1 _ _) hb); have HA := Lib.hid ((At.new w _ 29).bel hb); have hc3 := HA.out.cell 3; have hc4 := HA.out.cell 4; have hc5 := HA.out.cell 5; have hc6 := HA.out.cell 6; have hc7 := HA.out.cell 7; simp only [List.getElem?_toArray, List.getElem?_cons_succ, List.getElem?_cons_zero] at hc3 hc4 hc5 hc6 hc7; clear hb _f f1)
    go_ret
    exact ⟨ret_bool HV.out, HB.out⟩
  have HP9 := Lib.hid h9
  have hb9 : decide ((8192 : Int) < l7.length) = false := decide_eq_false h9
  clear h9
  have HS : Hid (sizesOk X = true) := Lib.hid (by rw [HX.out]; refine decide_eq_true ?_; dsimp only; have := HP0.out; have := HP1.out; have := HP2.out; have := HP3.out; have := HP4.out; have := HP5.out; omega)
  have HC : Hid (countsOk X = true) := Lib.hid (by rw [HX.out]; refine decide_eq_true ?_; dsimp only; have := HP6.out; have := HP7.out; have := HP8.out; have := HP9.out; omega)
  go_enter Try.func11, Try.ntmps11
  go_wp2_with (have _f := f1; refine (HMI.out _ (bel1 _ _)).mono ?_; rw [HMV.out]; rintro e w1 ⟨rfl, hb⟩; have HB := Lib.hid (bel_then (bel1 _ _) hb); have HA := Lib.hid ((At.new w _ 29).bel hb); have hc3 := HA.out.cell 3; have hc4 := HA.out.cell 4; have hc5 := HA.out.cell 5; have hc6 := HA.out.cell 6; have hc7 := HA.out.cell 7; simp only [List.getElem?_toArray, List.getElem?_cons_succ, List.getElem?_cons_zero] at hc3 hc4 hc5 hc6 hc7; clear hb _f f1)
  clear HMI HMV hb0 hb1 hb2 hb3 hb4 HP0 HP1 HP2 HP3 HP4 HP5 hb5 HP6 HP7 HP8 HP9 h7 hb6 hb8 hb9 v0 v1 v2
  obtain ⟨b6, o6, hat6, hcell6⟩ := HR.out.entries.at'
  have HAT6 := Lib.hid hat6
  have HCELL6 := Lib.hid hcell6
  clear hat6 hcell6
  dsimp only at HAT6 HCELL6
  go_loopw [3] (fun i wr => ∃ k n : Nat, i = .int .i64 k ∧ k ≤ l6.length ∧ (∀ (j : Nat) (y : Int), j < k → l6[j]? = some y → inN l5.length y = true) ∧ wr = w1.drewN n) (fun i _ => l6.length - (intOf i).toNat)
  case atStart => exact ⟨0, 0, rfl, Nat.zero_le _, fun j y h => by omega, rfl⟩
  case round =>
    obtain ⟨k, n, rfl, hk, hj, rfl⟩ := hrel
    have HJ := Lib.hid hj
    clear hj
    by_cases hlt : k < l6.length
    · obtain ⟨e, he⟩ := get_lt hlt
      obtain ⟨rfl, hb⟩ := HAT6.out (by omega)
      have ce : w1.cell? ⟨b6, o6 + k, none⟩ = some (.int .i64 e) := (HB.out.cell hb).trans (int_cell HCELL6.out he)
      have HE := Lib.hid he
      have HLT := Lib.hid hlt
      clear he hb
      by_cases q1 : e < 0
      · have HV : Hid (false = mayObj X) := Lib.hid (by rw [HX.out]; exact (may_entry (o := ⟨nm, ky, l2, vs, l4, l5, l6, l7⟩) HE.out (decide_eq_false (by dsimp only; omega))).symm)
        have hq1 : decide (e < 0) = true := decide_eq_true q1
        clear q1
        go_wp2
        go_quiet (fail)
        go_wp2
        go_ret
        exact ⟨ret_bool HV.out, (HB.out.drewN' _).drewN' _⟩
      by_cases q2 : (l5.length : Int) ≤ e
      · have HV : Hid (false = mayObj X) := Lib.hid (by rw [HX.out]; exact (may_entry (o := ⟨nm, ky, l2, vs, l4, l5, l6, l7⟩) HE.out (decide_eq_false (by dsimp only; omega))).symm)
        have hq1 : decide (e < 0) = false := decide_eq_false q1
        have hq2 : decide ((l5.length : Int) ≤ e) = true := decide_eq_true q2
        clear q1 q2
        go_wp2
        go_quiet (fail)
        go_wp2
        go_ret
        exact ⟨ret_bool HV.out, (HB.out.drewN' _).drewN' _⟩
      have HIN : Hid (inN l5.length e = true) := Lib.hid (decide_eq_true (by omega))
      have hq1 : decide (e < 0) = false := decide_eq_false q1
      have hq2 : decide ((l5.length : Int) ≤ e) = false := decide_eq_false q2
      clear q1 q2
      go_wp2
      go_quiet (fail)
      go_wp2
      go_roundw
      case rel =>
        refine ⟨k + 1, _, by go_num, HLT.out, fun j y hj hy => ?_, rfl⟩
        rcases Nat.lt_or_ge j k with h | h
        · exact HJ.out j y h hy
        · obtain rfl : j = k := by omega
          rw [HE.out] at hy; cases hy; exact HIN.out
      case measure => simp [intOf]; have := HLT.out; omega
    · have HEN : Hid (∀ (j : Nat) (y : Int), l6[j]? = some y → inN l5.length y = true) := Lib.hid (fun j y hy => HJ.out j y (by have := (List.getElem?_eq_some_iff.1 hy).1; omega) hy)
      clear hk HJ
      go_wp2
      clear hlt hc6
      obtain ⟨w2, hw2⟩ : ∃ w2, w1.drewN n = w2 := ⟨_, rfl⟩
      have HB2 : Hid (Below w.heap.size w w2) := Lib.hid (by rw [← hw2]; exact HB.out.drewN' n)
      have HA2 : Hid (At w2 w.heap.size #[.string nm, .int .u32 ky, .slice a2 l2.length c2, .int .i64 vs, .slice a4 l4.length c4, .slice a5 l5.length c5, .slice a6 l6.length c6, .slice a7 l7.length c7] 29) := Lib.hid (by rw [← hw2]; exact HA.out)
      rw [hw2]
      clear hw2 HA HB hc3 hc4 hc5 hc7
      obtain ⟨b7, o7, hat7, hcell7⟩ := HR.out.fixups.at'
      have HAT7 := Lib.hid hat7
      have HCELL7 := Lib.hid hcell7
      have HSN := Lib.hid (fun w' : World => Sep.nil w')
      clear hat7 hcell7
      dsimp only at HAT7 HCELL7
      go_loopw [4] (fun i wr => ∃ k : Nat, i = .int .i64 k ∧ k ≤ l7.length ∧ FixTo l5.length l2.length l7 k ∧ Below w2.heap.size w2 wr) (fun i _ => l7.length - (intOf i).toNat)
      case atStart => exact ⟨0, rfl, Nat.zero_le _, FixTo.start _ _ _, Below.refl _ _⟩
      case round =>
        obtain ⟨k, rfl, hk, hft, hbr⟩ := hrel
        have HFT := Lib.hid hft
        have HBR := Lib.hid hbr
        have hA := HA2.out.bel hbr
        have hc7 := hA.cell 7
        simp only [List.getElem?_toArray, List.getElem?_cons_succ, List.getElem?_cons_zero] at hc7
        have HAR := Lib.hid hA
        clear hft hbr hA
        by_cases hlt : k < l7.length
        · obtain ⟨⟨pl, md, en⟩, he⟩ := get_lt hlt
          obtain ⟨rfl, hb⟩ := HAT7.out (by omega)
          have hco : ∀ (q : Nat) (y : Value), ([.int .i64 pl, .int .i64 md, .int .i64 en] : List Value)[q]? = some y → wr.cell? ⟨b7, o7 + k * 3 + q, none⟩ = some y := fun q y hy => (HBR.out.cell (p := ⟨b7, o7 + k * 3 + q, none⟩) (Nat.lt_of_lt_of_le hb HB2.out.size)).trans ((HB2.out.cell (p := ⟨b7, o7 + k * 3 + q, none⟩) hb).trans (HCELL7.out k _ he q y hy))
          have HCO := Lib.hid hco
          have HE := Lib.hid he
          have HLT := Lib.hid hlt
          obtain ⟨⟨x0l, x0h⟩, ⟨x1l, x1h⟩, ⟨x2l, x2h⟩⟩ := HR.out.fixups.all _ (List.mem_of_getElem? he)
          dsimp only at x0l x0h x1l x1h x2l x2h
          have HBN := Lib.hid hb
          clear he hb hco
          have f2 : True := trivial
          have f3 : True := trivial
          have f4 : True := trivial
  
          by_cases q0 : pl < 0
          · have HV : Hid (false = mayObj X) := Lib.hid (by rw [HX.out]; exact (may_fixups (o := ⟨nm, ky, l2, vs, l4, l5, l6, l7⟩) (HFT.out.bad HE.out (fix_no (by dsimp only; omega)))).symm)
            have hq0 : decide (pl < 0) = true := decide_eq_true q0
            clear q0
            go_wp2_with (first | (have _f := f2; refine wpList_load_mid rfl 51 (.tmp 106) rfl b7 (o7 + k * 3) rfl [.int .i64 pl, .int .i64 md, .int .i64 en] _ HCO.out Try.underlying51 rfl (by kernel_rfl) ?_; clear _f f2) | (have _f := f3; refine alloc_sep rfl 51 rfl (HSN.out _) (z := .agg #[.int .i64 0, .int .i64 0, .int .i64 0]) (cs := #[.int .i64 0, .int .i64 0, .int .i64 0]) (by kernel_rfl) rfl ?_; intro wc S' b' s'; have HSc := Lib.hid S'; have HBc := Lib.hid b'; clear S' b' s' _f f3) | (have _f := f4; refine store_sep (cells := #[.int .i64 pl, .int .i64 md, .int .i64 en]) rfl 51 (.tmp 5) (.tmp 107) rfl HSc.out 0 rfl rfl rfl (by kernel_rfl) rfl rfl ?_; intro we S' k' s'; have HBe : Hid (Below wr.heap.size wr we) := Lib.hid (((Ke.below (· = wr.heap.size) HBc.out).trans k').toBelow (fun i hi e => absurd e (Nat.ne_of_lt hi))); have HBW := Lib.hid (bel_then HBR.out HBe.out); have y0 : we.cell? ⟨wr.heap.size, 0, none⟩ = some (.int .i64 pl) := ((S'.at 0 rfl).cell 0).trans rfl; have y1 : we.cell? ⟨wr.heap.size, 1, none⟩ = some (.int .i64 md) := ((S'.at 0 rfl).cell 1).trans rfl; have y2 : we.cell? ⟨wr.heap.size, 2, none⟩ = some (.int .i64 en) := ((S'.at 0 rfl).cell 2).trans rfl; have d2 : we.cell? ⟨w.heap.size, 2, none⟩ = some (.slice a2 l2.length c2) := ((HAR.out.bel HBe.out).cell 2).trans rfl; have d5 : we.cell? ⟨w.heap.size, 5, none⟩ = some (.slice a5 l5.length c5) := ((HAR.out.bel HBe.out).cell 5).trans rfl; have d7 : we.cell? ⟨w.heap.size, 7, none⟩ = some (.slice (some ⟨b7, o7, none⟩) l7.length c7) := ((HAR.out.bel HBe.out).cell 7).trans rfl; clear S' k' s' _f f4))
            go_ret
            exact ⟨ret_bool HV.out, bel_then HB2.out HBW.out⟩
          have hq0 : decide (pl < 0) = false := decide_eq_false q0
          have QQ0 := Lib.hid q0
          clear q0
          by_cases q1 : (l5.length : Int) ≤ pl
          · have HV : Hid (false = mayObj X) := Lib.hid (by rw [HX.out]; exact (may_fixups (o := ⟨nm, ky, l2, vs, l4, l5, l6, l7⟩) (HFT.out.bad HE.out (fix_no (by dsimp only; omega)))).symm)
            have hq1 : decide ((l5.length : Int) ≤ pl) = true := decide_eq_true q1
            clear q1
            go_wp2_with (first | (have _f := f2; refine wpList_load_mid rfl 51 (.tmp 106) rfl b7 (o7 + k * 3) rfl [.int .i64 pl, .int .i64 md, .int .i64 en] _ HCO.out Try.underlying51 rfl (by kernel_rfl) ?_; clear _f f2) | (have _f := f3; refine alloc_sep rfl 51 rfl (HSN.out _) (z := .agg #[.int .i64 0, .int .i64 0, .int .i64 0]) (cs := #[.int .i64 0, .int .i64 0, .int .i64 0]) (by kernel_rfl) rfl ?_; intro wc S' b' s'; have HSc := Lib.hid S'; have HBc := Lib.hid b'; clear S' b' s' _f f3) | (have _f := f4; refine store_sep (cells := #[.int .i64 pl, .int .i64 md, .int .i64 en]) rfl 51 (.tmp 5) (.tmp 107) rfl HSc.out 0 rfl rfl rfl (by kernel_rfl) rfl rfl ?_; intro we S' k' s'; have HBe : Hid (Below wr.heap.size wr we) := Lib.hid (((Ke.below (· = wr.heap.size) HBc.out).trans k').toBelow (fun i hi e => absurd e (Nat.ne_of_lt hi))); have HBW := Lib.hid (bel_then HBR.out HBe.out); have y0 : we.cell? ⟨wr.heap.size, 0, none⟩ = some (.int .i64 pl) := ((S'.at 0 rfl).cell 0).trans rfl; have y1 : we.cell? ⟨wr.heap.size, 1, none⟩ = some (.int .i64 md) := ((S'.at 0 rfl).cell 1).trans rfl; have y2 : we.cell? ⟨wr.heap.size, 2, none⟩ = some (.int .i64 en) := ((S'.at 0 rfl).cell 2).trans rfl; have d2 : we.cell? ⟨w.heap.size, 2, none⟩ = some (.slice a2 l2.length c2) := ((HAR.out.bel HBe.out).cell 2).trans rfl; have d5 : we.cell? ⟨w.heap.size, 5, none⟩ = some (.slice a5 l5.length c5) := ((HAR.out.bel HBe.out).cell 5).trans rfl; have d7 : we.cell? ⟨w.heap.size, 7, none⟩ = some (.slice (some ⟨b7, o7, none⟩) l7.length c7) := ((HAR.out.bel HBe.out).cell 7).trans rfl; clear S' k' s' _f f4))
            go_ret
            exact ⟨ret_bool HV.out, bel_then HB2.out HBW.out⟩
          have hq1 : decide ((l5.length : Int) ≤ pl) = false := decide_eq_false q1
          have QQ1 := Lib.hid q1
          clear q1
          by_cases q2 : en < 0
          · have HV : Hid (false = mayObj X) := Lib.hid (by rw [HX.out]; exact (may_fixups (o := ⟨nm, ky, l2, vs, l4, l5, l6, l7⟩) (HFT.out.bad HE.out (fix_no (by dsimp only; omega)))).symm)
            have hq2 : decide (en < 0) = true := decide_eq_true q2
            clear q2
            go_wp2_with (first | (have _f := f2; refine wpList_load_mid rfl 51 (.tmp 106) rfl b7 (o7 + k * 3) rfl [.int .i64 pl, .int .i64 md, .int .i64 en] _ HCO.out Try.underlying51 rfl (by kernel_rfl) ?_; clear _f f2) | (have _f := f3; refine alloc_sep rfl 51 rfl (HSN.out _) (z := .agg #[.int .i64 0, .int .i64 0, .int .i64 0]) (cs := #[.int .i64 0, .int .i64 0, .int .i64 0]) (by kernel_rfl) rfl ?_; intro wc S' b' s'; have HSc := Lib.hid S'; have HBc := Lib.hid b'; clear S' b' s' _f f3) | (have _f := f4; refine store_sep (cells := #[.int .i64 pl, .int .i64 md, .int .i64 en]) rfl 51 (.tmp 5) (.tmp 107) rfl HSc.out 0 rfl rfl rfl (by kernel_rfl) rfl rfl ?_; intro we S' k' s'; have HBe : Hid (Below wr.heap.size wr we) := Lib.hid (((Ke.below (· = wr.heap.size) HBc.out).trans k').toBelow (fun i hi e => absurd e (Nat.ne_of_lt hi))); have HBW := Lib.hid (bel_then HBR.out HBe.out); have y0 : we.cell? ⟨wr.heap.size, 0, none⟩ = some (.int .i64 pl) := ((S'.at 0 rfl).cell 0).trans rfl; have y1 : we.cell? ⟨wr.heap.size, 1, none⟩ = some (.int .i64 md) := ((S'.at 0 rfl).cell 1).trans rfl; have y2 : we.cell? ⟨wr.heap.size, 2, none⟩ = some (.int .i64 en) := ((S'.at 0 rfl).cell 2).trans rfl; have d2 : we.cell? ⟨w.heap.size, 2, none⟩ = some (.slice a2 l2.length c2) := ((HAR.out.bel HBe.out).cell 2).trans rfl; have d5 : we.cell? ⟨w.heap.size, 5, none⟩ = some (.slice a5 l5.length c5) := ((HAR.out.bel HBe.out).cell 5).trans rfl; have d7 : we.cell? ⟨w.heap.size, 7, none⟩ = some (.slice (some ⟨b7, o7, none⟩) l7.length c7) := ((HAR.out.bel HBe.out).cell 7).trans rfl; clear S' k' s' _f f4))
            go_ret
            exact ⟨ret_bool HV.out, bel_then HB2.out HBW.out⟩
          have hq2 : decide (en < 0) = false := decide_eq_false q2
          have QQ2 := Lib.hid q2
          clear q2
          by_cases q3 : 200 < en
          · have HV : Hid (false = mayObj X) := Lib.hid (by rw [HX.out]; exact (may_fixups (o := ⟨nm, ky, l2, vs, l4, l5, l6, l7⟩) (HFT.out.bad HE.out (fix_no (by dsimp only; omega)))).symm)
            have hq3 : decide (200 < en) = true := decide_eq_true q3
            clear q3
            go_wp2_with (first | (have _f := f2; refine wpList_load_mid rfl 51 (.tmp 106) rfl b7 (o7 + k * 3) rfl [.int .i64 pl, .int .i64 md, .int .i64 en] _ HCO.out Try.underlying51 rfl (by kernel_rfl) ?_; clear _f f2) | (have _f := f3; refine alloc_sep rfl 51 rfl (HSN.out _) (z := .agg #[.int .i64 0, .int .i64 0, .int .i64 0]) (cs := #[.int .i64 0, .int .i64 0, .int .i64 0]) (by kernel_rfl) rfl ?_; intro wc S' b' s'; have HSc := Lib.hid S'; have HBc := Lib.hid b'; clear S' b' s' _f f3) | (have _f := f4; refine store_sep (cells := #[.int .i64 pl, .int .i64 md, .int .i64 en]) rfl 51 (.tmp 5) (.tmp 107) rfl HSc.out 0 rfl rfl rfl (by kernel_rfl) rfl rfl ?_; intro we S' k' s'; have HBe : Hid (Below wr.heap.size wr we) := Lib.hid (((Ke.below (· = wr.heap.size) HBc.out).trans k').toBelow (fun i hi e => absurd e (Nat.ne_of_lt hi))); have HBW := Lib.hid (bel_then HBR.out HBe.out); have y0 : we.cell? ⟨wr.heap.size, 0, none⟩ = some (.int .i64 pl) := ((S'.at 0 rfl).cell 0).trans rfl; have y1 : we.cell? ⟨wr.heap.size, 1, none⟩ = some (.int .i64 md) := ((S'.at 0 rfl).cell 1).trans rfl; have y2 : we.cell? ⟨wr.heap.size, 2, none⟩ = some (.int .i64 en) := ((S'.at 0 rfl).cell 2).trans rfl; have d2 : we.cell? ⟨w.heap.size, 2, none⟩ = some (.slice a2 l2.length c2) := ((HAR.out.bel HBe.out).cell 2).trans rfl; have d5 : we.cell? ⟨w.heap.size, 5, none⟩ = some (.slice a5 l5.length c5) := ((HAR.out.bel HBe.out).cell 5).trans rfl; have d7 : we.cell? ⟨w.heap.size, 7, none⟩ = some (.slice (some ⟨b7, o7, none⟩) l7.length c7) := ((HAR.out.bel HBe.out).cell 7).trans rfl; clear S' k' s' _f f4))
            go_ret
            exact ⟨ret_bool HV.out, bel_then HB2.out HBW.out⟩
          have hq3 : decide (200 < en) = false := decide_eq_false q3
          have QQ3 := Lib.hid q3
          clear q3
          by_cases q4 : md < 0
          · have HV : Hid (false = mayObj X) := Lib.hid (by rw [HX.out]; exact (may_fixups (o := ⟨nm, ky, l2, vs, l4, l5, l6, l7⟩) (HFT.out.bad HE.out (fix_no (by dsimp only; omega)))).symm)
            have hq4 : decide (md < 0) = true := decide_eq_true q4
            clear q4
            go_wp2_with (first | (have _f := f2; refine wpList_load_mid rfl 51 (.tmp 106) rfl b7 (o7 + k * 3) rfl [.int .i64 pl, .int .i64 md, .int .i64 en] _ HCO.out Try.underlying51 rfl (by kernel_rfl) ?_; clear _f f2) | (have _f := f3; refine alloc_sep rfl 51 rfl (HSN.out _) (z := .agg #[.int .i64 0, .int .i64 0, .int .i64 0]) (cs := #[.int .i64 0, .int .i64 0, .int .i64 0]) (by kernel_rfl) rfl ?_; intro wc S' b' s'; have HSc := Lib.hid S'; have HBc := Lib.hid b'; clear S' b' s' _f f3) | (have _f := f4; refine store_sep (cells := #[.int .i64 pl, .int .i64 md, .int .i64 en]) rfl 51 (.tmp 5) (.tmp 107) rfl HSc.out 0 rfl rfl rfl (by kernel_rfl) rfl rfl ?_; intro we S' k' s'; have HBe : Hid (Below wr.heap.size wr we) := Lib.hid (((Ke.below (· = wr.heap.size) HBc.out).trans k').toBelow (fun i hi e => absurd e (Nat.ne_of_lt hi))); have HBW := Lib.hid (bel_then HBR.out HBe.out); have y0 : we.cell? ⟨wr.heap.size, 0, none⟩ = some (.int .i64 pl) := ((S'.at 0 rfl).cell 0).trans rfl; have y1 : we.cell? ⟨wr.heap.size, 1, none⟩ = some (.int .i64 md) := ((S'.at 0 rfl).cell 1).trans rfl; have y2 : we.cell? ⟨wr.heap.size, 2, none⟩ = some (.int .i64 en) := ((S'.at 0 rfl).cell 2).trans rfl; have d2 : we.cell? ⟨w.heap.size, 2, none⟩ = some (.slice a2 l2.length c2) := ((HAR.out.bel HBe.out).cell 2).trans rfl; have d5 : we.cell? ⟨w.heap.size, 5, none⟩ = some (.slice a5 l5.length c5) := ((HAR.out.bel HBe.out).cell 5).trans rfl; have d7 : we.cell? ⟨w.heap.size, 7, none⟩ = some (.slice (some ⟨b7, o7, none⟩) l7.length c7) := ((HAR.out.bel HBe.out).cell 7).trans rfl; clear S' k' s' _f f4))
            go_ret
            exact ⟨ret_bool HV.out, bel_then HB2.out HBW.out⟩
          have hq4 : decide (md < 0) = false := decide_eq_false q4
          have QQ4 := Lib.hid q4
          clear q4
          by_cases q5 : (l2.length : Int) < md
          · have HV : Hid (false = mayObj X) := Lib.hid (by rw [HX.out]; exact (may_fixups (o := ⟨nm, ky, l2, vs, l4, l5, l6, l7⟩) (HFT.out.bad HE.out (fix_no (by dsimp only; omega)))).symm)
            have hq5 : decide ((l2.length : Int) < md) = true := decide_eq_true q5
            clear q5
            go_wp2_with (first | (have _f := f2; refine wpList_load_mid rfl 51 (.tmp 106) rfl b7 (o7 + k * 3) rfl [.int .i64 pl, .int .i64 md, .int .i64 en] _ HCO.out Try.underlying51 rfl (by kernel_rfl) ?_; clear _f f2) | (have _f := f3; refine alloc_sep rfl 51 rfl (HSN.out _) (z := .agg #[.int .i64 0, .int .i64 0, .int .i64 0]) (cs := #[.int .i64 0, .int .i64 0, .int .i64 0]) (by kernel_rfl) rfl ?_; intro wc S' b' s'; have HSc := Lib.hid S'; have HBc := Lib.hid b'; clear S' b' s' _f f3) | (have _f := f4; refine store_sep (cells := #[.int .i64 pl, .int .i64 md, .int .i64 en]) rfl 51 (.tmp 5) (.tmp 107) rfl HSc.out 0 rfl rfl rfl (by kernel_rfl) rfl rfl ?_; intro we S' k' s'; have HBe : Hid (Below wr.heap.size wr we) := Lib.hid (((Ke.below (· = wr.heap.size) HBc.out).trans k').toBelow (fun i hi e => absurd e (Nat.ne_of_lt hi))); have HBW := Lib.hid (bel_then HBR.out HBe.out); have y0 : we.cell? ⟨wr.heap.size, 0, none⟩ = some (.int .i64 pl) := ((S'.at 0 rfl).cell 0).trans rfl; have y1 : we.cell? ⟨wr.heap.size, 1, none⟩ = some (.int .i64 md) := ((S'.at 0 rfl).cell 1).trans rfl; have y2 : we.cell? ⟨wr.heap.size, 2, none⟩ = some (.int .i64 en) := ((S'.at 0 rfl).cell 2).trans rfl; have d2 : we.cell? ⟨w.heap.size, 2, none⟩ = some (.slice a2 l2.length c2) := ((HAR.out.bel HBe.out).cell 2).trans rfl; have d5 : we.cell? ⟨w.heap.size, 5, none⟩ = some (.slice a5 l5.length c5) := ((HAR.out.bel HBe.out).cell 5).trans rfl; have d7 : we.cell? ⟨w.heap.size, 7, none⟩ = some (.slice (some ⟨b7, o7, none⟩) l7.length c7) := ((HAR.out.bel HBe.out).cell 7).trans rfl; clear S' k' s' _f f4))
            go_ret
            exact ⟨ret_bool HV.out, bel_then HB2.out HBW.out⟩
          have hq5 : decide ((l2.length : Int) < md) = false := decide_eq_false q5
          have QQ5 := Lib.hid q5
          clear q5
          have n0 : 0 ≤ pl := by have := QQ0.out; omega
          have n1 : (1 : Int) ≤ l5.length := by have := QQ1.out; omega
          by_cases e0 : en = 0
          · have he0 : (en == 0) = true := by simpa using e0
            have he1 : decide (0 < en) = false := decide_eq_false (by omega)
            have E0 := Lib.hid e0
            by_cases p1 : pl = l5.length - 1
            · have HV : Hid (false = mayObj X) := Lib.hid (by rw [HX.out]; exact (may_fixups (o := ⟨nm, ky, l2, vs, l4, l5, l6, l7⟩) (HFT.out.bad HE.out (fix_no (by dsimp only; omega)))).symm)
              have hp1 : (pl == (l5.length : Int) - 1) = true := by simpa using p1
              have P1 := Lib.hid p1
              clear p1 e0
              go_wp2_with (first | (have _f := f2; refine wpList_load_mid rfl 51 (.tmp 106) rfl b7 (o7 + k * 3) rfl [.int .i64 pl, .int .i64 md, .int .i64 en] _ HCO.out Try.underlying51 rfl (by kernel_rfl) ?_; clear _f f2) | (have _f := f3; refine alloc_sep rfl 51 rfl (HSN.out _) (z := .agg #[.int .i64 0, .int .i64 0, .int .i64 0]) (cs := #[.int .i64 0, .int .i64 0, .int .i64 0]) (by kernel_rfl) rfl ?_; intro wc S' b' s'; have HSc := Lib.hid S'; have HBc := Lib.hid b'; clear S' b' s' _f f3) | (have _f := f4; refine store_sep (cells := #[.int .i64 pl, .int .i64 md, .int .i64 en]) rfl 51 (.tmp 5) (.tmp 107) rfl HSc.out 0 rfl rfl rfl (by kernel_rfl) rfl rfl ?_; intro we S' k' s'; have HBe : Hid (Below wr.heap.size wr we) := Lib.hid (((Ke.below (· = wr.heap.size) HBc.out).trans k').toBelow (fun i hi e => absurd e (Nat.ne_of_lt hi))); have HBW := Lib.hid (bel_then HBR.out HBe.out); have y0 : we.cell? ⟨wr.heap.size, 0, none⟩ = some (.int .i64 pl) := ((S'.at 0 rfl).cell 0).trans rfl; have y1 : we.cell? ⟨wr.heap.size, 1, none⟩ = some (.int .i64 md) := ((S'.at 0 rfl).cell 1).trans rfl; have y2 : we.cell? ⟨wr.heap.size, 2, none⟩ = some (.int .i64 en) := ((S'.at 0 rfl).cell 2).trans rfl; have d2 : we.cell? ⟨w.heap.size, 2, none⟩ = some (.slice a2 l2.length c2) := ((HAR.out.bel HBe.out).cell 2).trans rfl; have d5 : we.cell? ⟨w.heap.size, 5, none⟩ = some (.slice a5 l5.length c5) := ((HAR.out.bel HBe.out).cell 5).trans rfl; have d7 : we.cell? ⟨w.heap.size, 7, none⟩ = some (.slice (some ⟨b7, o7, none⟩) l7.length c7) := ((HAR.out.bel HBe.out).cell 7).trans rfl; clear S' k' s' _f f4))
              have s1 : IntKind.i64.wrap ((l5.length : Int) - 1) = l5.length - 1 := IntWalk.i64_in _ (by omega)
              go_quiet (fail)
              go_wp2
              go_ret
              exact ⟨ret_bool HV.out, (bel_then HB2.out HBW.out).drewN' _⟩
            have hp1 : (pl == (l5.length : Int) - 1) = false := by simpa using p1
            have P1 := Lib.hid p1
            clear p1 e0
            by_cases hk0 : k = 0
            · have HOK : Hid (fixOk l5.length l2.length (prevF l7 k) ⟨pl, md, en⟩ = true) := Lib.hid (fix_yes ⟨by dsimp only; have := QQ0.out; have := QQ1.out; have := QQ2.out; have := QQ3.out; have := QQ4.out; have := QQ5.out; have := P1.out; have := E0.out; omega, by dsimp only; have := QQ0.out; have := QQ1.out; have := QQ2.out; have := QQ3.out; have := QQ4.out; have := QQ5.out; have := P1.out; have := E0.out; omega, by dsimp only; have := QQ0.out; have := QQ1.out; have := QQ2.out; have := QQ3.out; have := QQ4.out; have := QQ5.out; have := P1.out; have := E0.out; omega, by dsimp only; have := QQ0.out; have := QQ1.out; have := QQ2.out; have := QQ3.out; have := QQ4.out; have := QQ5.out; have := P1.out; have := E0.out; omega, by dsimp only; have := QQ0.out; have := QQ1.out; have := QQ2.out; have := QQ3.out; have := QQ4.out; have := QQ5.out; have := P1.out; have := E0.out; omega, by dsimp only; have := QQ0.out; have := QQ1.out; have := QQ2.out; have := QQ3.out; have := QQ4.out; have := QQ5.out; have := P1.out; have := E0.out; omega, by dsimp only; have := QQ0.out; have := QQ1.out; have := QQ2.out; have := QQ3.out; have := QQ4.out; have := QQ5.out; have := P1.out; have := E0.out; omega, by dsimp only; have := QQ0.out; have := QQ1.out; have := QQ2.out; have := QQ3.out; have := QQ4.out; have := QQ5.out; have := P1.out; have := E0.out; omega, by rw [hk0]; exact before_zero⟩)
              have z1 : decide (0 < k) = false := decide_eq_false (by omega)
              have z2 : decide ((0 : Int) < k) = false := decide_eq_false (by omega)
              clear hk0
              go_wp2_with (first | (have _f := f2; refine wpList_load_mid rfl 51 (.tmp 106) rfl b7 (o7 + k * 3) rfl [.int .i64 pl, .int .i64 md, .int .i64 en] _ HCO.out Try.underlying51 rfl (by kernel_rfl) ?_; clear _f f2) | (have _f := f3; refine alloc_sep rfl 51 rfl (HSN.out _) (z := .agg #[.int .i64 0, .int .i64 0, .int .i64 0]) (cs := #[.int .i64 0, .int .i64 0, .int .i64 0]) (by kernel_rfl) rfl ?_; intro wc S' b' s'; have HSc := Lib.hid S'; have HBc := Lib.hid b'; clear S' b' s' _f f3) | (have _f := f4; refine store_sep (cells := #[.int .i64 pl, .int .i64 md, .int .i64 en]) rfl 51 (.tmp 5) (.tmp 107) rfl HSc.out 0 rfl rfl rfl (by kernel_rfl) rfl rfl ?_; intro we S' k' s'; have HBe : Hid (Below wr.heap.size wr we) := Lib.hid (((Ke.below (· = wr.heap.size) HBc.out).trans k').toBelow (fun i hi e => absurd e (Nat.ne_of_lt hi))); have HBW := Lib.hid (bel_then HBR.out HBe.out); have y0 : we.cell? ⟨wr.heap.size, 0, none⟩ = some (.int .i64 pl) := ((S'.at 0 rfl).cell 0).trans rfl; have y1 : we.cell? ⟨wr.heap.size, 1, none⟩ = some (.int .i64 md) := ((S'.at 0 rfl).cell 1).trans rfl; have y2 : we.cell? ⟨wr.heap.size, 2, none⟩ = some (.int .i64 en) := ((S'.at 0 rfl).cell 2).trans rfl; have d2 : we.cell? ⟨w.heap.size, 2, none⟩ = some (.slice a2 l2.length c2) := ((HAR.out.bel HBe.out).cell 2).trans rfl; have d5 : we.cell? ⟨w.heap.size, 5, none⟩ = some (.slice a5 l5.length c5) := ((HAR.out.bel HBe.out).cell 5).trans rfl; have d7 : we.cell? ⟨w.heap.size, 7, none⟩ = some (.slice (some ⟨b7, o7, none⟩) l7.length c7) := ((HAR.out.bel HBe.out).cell 7).trans rfl; clear S' k' s' _f f4))
              have s1 : IntKind.i64.wrap ((l5.length : Int) - 1) = l5.length - 1 := IntWalk.i64_in _ (by omega)
              go_quiet (fail)
              go_wp2
              go_roundw
              case rel => exact ⟨k + 1, by go_num, HLT.out, HFT.out.next HE.out HOK.out, HBW.out.drewN' _⟩
              case measure => simp [intOf]; have := HLT.out; omega
            obtain ⟨⟨pp, pm, pe⟩, hpp⟩ := get_lt (l := l7) (i := k - 1) (by omega)
            have HPP := Lib.hid hpp
            have k0 : 0 < k := by omega
            have k1 : k - 1 < l7.length := by omega
            have k0' : (0 : Int) < k := by omega
            have z1 : decide (0 < k) = true := decide_eq_true k0
            have z2 : decide ((0 : Int) < k) = true := decide_eq_true k0'
            clear hpp hk0
            by_cases hle : pl ≤ pp
            · have HV : Hid (false = mayObj X) := Lib.hid (by rw [HX.out]; exact (may_fixups (o := ⟨nm, ky, l2, vs, l4, l5, l6, l7⟩) (HFT.out.bad HE.out (fix_no (by rw [before_succ k0 HPP.out]; simp only [decide_eq_true_eq]; omega)))).symm)
              have hle' : decide (pl ≤ pp) = true := decide_eq_true hle
              clear hle
              go_wp2_with (first | (have _f := f2; refine wpList_load_mid rfl 51 (.tmp 106) rfl b7 (o7 + k * 3) rfl [.int .i64 pl, .int .i64 md, .int .i64 en] _ HCO.out Try.underlying51 rfl (by kernel_rfl) ?_; clear _f f2) | (have _f := f3; refine alloc_sep rfl 51 rfl (HSN.out _) (z := .agg #[.int .i64 0, .int .i64 0, .int .i64 0]) (cs := #[.int .i64 0, .int .i64 0, .int .i64 0]) (by kernel_rfl) rfl ?_; intro wc S' b' s'; have HSc := Lib.hid S'; have HBc := Lib.hid b'; clear S' b' s' _f f3) | (have _f := f4; refine store_sep (cells := #[.int .i64 pl, .int .i64 md, .int .i64 en]) rfl 51 (.tmp 5) (.tmp 107) rfl HSc.out 0 rfl rfl rfl (by kernel_rfl) rfl rfl ?_; intro we S' k' s'; have HBe : Hid (Below wr.heap.size wr we) := Lib.hid (((Ke.below (· = wr.heap.size) HBc.out).trans k').toBelow (fun i hi e => absurd e (Nat.ne_of_lt hi))); have HBW := Lib.hid (bel_then HBR.out HBe.out); have y0 : we.cell? ⟨wr.heap.size, 0, none⟩ = some (.int .i64 pl) := ((S'.at 0 rfl).cell 0).trans rfl; have y1 : we.cell? ⟨wr.heap.size, 1, none⟩ = some (.int .i64 md) := ((S'.at 0 rfl).cell 1).trans rfl; have y2 : we.cell? ⟨wr.heap.size, 2, none⟩ = some (.int .i64 en) := ((S'.at 0 rfl).cell 2).trans rfl; have d2 : we.cell? ⟨w.heap.size, 2, none⟩ = some (.slice a2 l2.length c2) := ((HAR.out.bel HBe.out).cell 2).trans rfl; have d5 : we.cell? ⟨w.heap.size, 5, none⟩ = some (.slice a5 l5.length c5) := ((HAR.out.bel HBe.out).cell 5).trans rfl; have d7 : we.cell? ⟨w.heap.size, 7, none⟩ = some (.slice (some ⟨b7, o7, none⟩) l7.length c7) := ((HAR.out.bel HBe.out).cell 7).trans rfl; have z0 : we.cell? ⟨b7, o7 + (k - 1) * 3, none⟩ = some (.int .i64 pp) := (HBW.out.cell (p := ⟨b7, _, none⟩) (Nat.lt_of_lt_of_le HBN.out HB2.out.size)).trans ((HB2.out.cell (p := ⟨b7, _, none⟩) HBN.out).trans (HCELL7.out (k - 1) _ HPP.out 0 _ rfl)); clear S' k' s' _f f4))
              have s1 : IntKind.i64.wrap ((l5.length : Int) - 1) = l5.length - 1 := IntWalk.i64_in _ (by omega)
              have s2 : IntKind.i64.wrap ((k : Int) - 1) = ((k - 1 : Nat) : Int) := by rw [IntWalk.i64_in _ (by omega)]; omega
              go_quiet (fail)
              go_wp2
              go_ret
              exact ⟨ret_bool HV.out, (bel_then HB2.out HBW.out).drewN' _⟩
            have HOK : Hid (fixOk l5.length l2.length (prevF l7 k) ⟨pl, md, en⟩ = true) := Lib.hid (fix_yes ⟨by dsimp only; have := QQ0.out; have := QQ1.out; have := QQ2.out; have := QQ3.out; have := QQ4.out; have := QQ5.out; have := P1.out; have := E0.out; omega, by dsimp only; have := QQ0.out; have := QQ1.out; have := QQ2.out; have := QQ3.out; have := QQ4.out; have := QQ5.out; have := P1.out; have := E0.out; omega, by dsimp only; have := QQ0.out; have := QQ1.out; have := QQ2.out; have := QQ3.out; have := QQ4.out; have := QQ5.out; have := P1.out; have := E0.out; omega, by dsimp only; have := QQ0.out; have := QQ1.out; have := QQ2.out; have := QQ3.out; have := QQ4.out; have := QQ5.out; have := P1.out; have := E0.out; omega, by dsimp only; have := QQ0.out; have := QQ1.out; have := QQ2.out; have := QQ3.out; have := QQ4.out; have := QQ5.out; have := P1.out; have := E0.out; omega, by dsimp only; have := QQ0.out; have := QQ1.out; have := QQ2.out; have := QQ3.out; have := QQ4.out; have := QQ5.out; have := P1.out; have := E0.out; omega, by dsimp only; have := QQ0.out; have := QQ1.out; have := QQ2.out; have := QQ3.out; have := QQ4.out; have := QQ5.out; have := P1.out; have := E0.out; omega, by dsimp only; have := QQ0.out; have := QQ1.out; have := QQ2.out; have := QQ3.out; have := QQ4.out; have := QQ5.out; have := P1.out; have := E0.out; omega, by rw [before_succ k0 HPP.out]; exact decide_eq_true (by dsimp only; omega)⟩)
            have hle' : decide (pl ≤ pp) = false := decide_eq_false hle
            clear hle
            go_wp2_with (first | (have _f := f2; refine wpList_load_mid rfl 51 (.tmp 106) rfl b7 (o7 + k * 3) rfl [.int .i64 pl, .int .i64 md, .int .i64 en] _ HCO.out Try.underlying51 rfl (by kernel_rfl) ?_; clear _f f2) | (have _f := f3; refine alloc_sep rfl 51 rfl (HSN.out _) (z := .agg #[.int .i64 0, .int .i64 0, .int .i64 0]) (cs := #[.int .i64 0, .int .i64 0, .int .i64 0]) (by kernel_rfl) rfl ?_; intro wc S' b' s'; have HSc := Lib.hid S'; have HBc := Lib.hid b'; clear S' b' s' _f f3) | (have _f := f4; refine store_sep (cells := #[.int .i64 pl, .int .i64 md, .int .i64 en]) rfl 51 (.tmp 5) (.tmp 107) rfl HSc.out 0 rfl rfl rfl (by kernel_rfl) rfl rfl ?_; intro we S' k' s'; have HBe : Hid (Below wr.heap.size wr we) := Lib.hid (((Ke.below (· = wr.heap.size) HBc.out).trans k').toBelow (fun i hi e => absurd e (Nat.ne_of_lt hi))); have HBW := Lib.hid (bel_then HBR.out HBe.out); have y0 : we.cell? ⟨wr.heap.size, 0, none⟩ = some (.int .i64 pl) := ((S'.at 0 rfl).cell 0).trans rfl; have y1 : we.cell? ⟨wr.heap.size, 1, none⟩ = some (.int .i64 md) := ((S'.at 0 rfl).cell 1).trans rfl; have y2 : we.cell? ⟨wr.heap.size, 2, none⟩ = some (.int .i64 en) := ((S'.at 0 rfl).cell 2).trans rfl; have d2 : we.cell? ⟨w.heap.size, 2, none⟩ = some (.slice a2 l2.length c2) := ((HAR.out.bel HBe.out).cell 2).trans rfl; have d5 : we.cell? ⟨w.heap.size, 5, none⟩ = some (.slice a5 l5.length c5) := ((HAR.out.bel HBe.out).cell 5).trans rfl; have d7 : we.cell? ⟨w.heap.size, 7, none⟩ = some (.slice (some ⟨b7, o7, none⟩) l7.length c7) := ((HAR.out.bel HBe.out).cell 7).trans rfl; have z0 : we.cell? ⟨b7, o7 + (k - 1) * 3, none⟩ = some (.int .i64 pp) := (HBW.out.cell (p := ⟨b7, _, none⟩) (Nat.lt_of_lt_of_le HBN.out HB2.out.size)).trans ((HB2.out.cell (p := ⟨b7, _, none⟩) HBN.out).trans (HCELL7.out (k - 1) _ HPP.out 0 _ rfl)); clear S' k' s' _f f4))
            have s1 : IntKind.i64.wrap ((l5.length : Int) - 1) = l5.length - 1 := IntWalk.i64_in _ (by omega)
            have s2 : IntKind.i64.wrap ((k : Int) - 1) = ((k - 1 : Nat) : Int) := by rw [IntWalk.i64_in _ (by omega)]; omega
            go_quiet (fail)
            go_wp2
            go_roundw
            case rel => exact ⟨k + 1, by go_num, HLT.out, HFT.out.next HE.out HOK.out, HBW.out.drewN' _⟩
            case measure => simp [intOf]; have := HLT.out; omega
          have he0 : (en == 0) = false := by simpa using e0
          have he1 : decide (0 < en) = true := decide_eq_true (by have := QQ2.out; omega)
          have E0 := Lib.hid e0
          clear e0
          by_cases m0 : md = 0
          · have HV : Hid (false = mayObj X) := Lib.hid (by rw [HX.out]; exact (may_fixups (o := ⟨nm, ky, l2, vs, l4, l5, l6, l7⟩) (HFT.out.bad HE.out (fix_no (by dsimp only; have := E0.out; have := QQ2.out; omega)))).symm)
            have hm0 : (md == 0) = true := by simpa using m0
            clear m0
            go_wp2_with (first | (have _f := f2; refine wpList_load_mid rfl 51 (.tmp 106) rfl b7 (o7 + k * 3) rfl [.int .i64 pl, .int .i64 md, .int .i64 en] _ HCO.out Try.underlying51 rfl (by kernel_rfl) ?_; clear _f f2) | (have _f := f3; refine alloc_sep rfl 51 rfl (HSN.out _) (z := .agg #[.int .i64 0, .int .i64 0, .int .i64 0]) (cs := #[.int .i64 0, .int .i64 0, .int .i64 0]) (by kernel_rfl) rfl ?_; intro wc S' b' s'; have HSc := Lib.hid S'; have HBc := Lib.hid b'; clear S' b' s' _f f3) | (have _f := f4; refine store_sep (cells := #[.int .i64 pl, .int .i64 md, .int .i64 en]) rfl 51 (.tmp 5) (.tmp 107) rfl HSc.out 0 rfl rfl rfl (by kernel_rfl) rfl rfl ?_; intro we S' k' s'; have HBe : Hid (Below wr.heap.size wr we) := Lib.hid (((Ke.below (· = wr.heap.size) HBc.out).trans k').toBelow (fun i hi e => absurd e (Nat.ne_of_lt hi))); have HBW := Lib.hid (bel_then HBR.out HBe.out); have y0 : we.cell? ⟨wr.heap.size, 0, none⟩ = some (.int .i64 pl) := ((S'.at 0 rfl).cell 0).trans rfl; have y1 : we.cell? ⟨wr.heap.size, 1, none⟩ = some (.int .i64 md) := ((S'.at 0 rfl).cell 1).trans rfl; have y2 : we.cell? ⟨wr.heap.size, 2, none⟩ = some (.int .i64 en) := ((S'.at 0 rfl).cell 2).trans rfl; have d2 : we.cell? ⟨w.heap.size, 2, none⟩ = some (.slice a2 l2.length c2) := ((HAR.out.bel HBe.out).cell 2).trans rfl; have d5 : we.cell? ⟨w.heap.size, 5, none⟩ = some (.slice a5 l5.length c5) := ((HAR.out.bel HBe.out).cell 5).trans rfl; have d7 : we.cell? ⟨w.heap.size, 7, none⟩ = some (.slice (some ⟨b7, o7, none⟩) l7.length c7) := ((HAR.out.bel HBe.out).cell 7).trans rfl; clear S' k' s' _f f4))
            have s1 : IntKind.i64.wrap ((l5.length : Int) - 1) = l5.length - 1 := IntWalk.i64_in _ (by omega)
            go_quiet (fail)
            go_wp2
            go_ret
            exact ⟨ret_bool HV.out, (bel_then HB2.out HBW.out).drewN' _⟩
          have hm0 : (md == 0) = false := by simpa using m0
          have M0 := Lib.hid m0
          clear m0
          by_cases hk0 : k = 0
          · have HOK : Hid (fixOk l5.length l2.length (prevF l7 k) ⟨pl, md, en⟩ = true) := Lib.hid (fix_yes ⟨by dsimp only; have := QQ0.out; have := QQ1.out; have := QQ2.out; have := QQ3.out; have := QQ4.out; have := QQ5.out; have := E0.out; have := M0.out; omega, by dsimp only; have := QQ0.out; have := QQ1.out; have := QQ2.out; have := QQ3.out; have := QQ4.out; have := QQ5.out; have := E0.out; have := M0.out; omega, by dsimp only; have := QQ0.out; have := QQ1.out; have := QQ2.out; have := QQ3.out; have := QQ4.out; have := QQ5.out; have := E0.out; have := M0.out; omega, by dsimp only; have := QQ0.out; have := QQ1.out; have := QQ2.out; have := QQ3.out; have := QQ4.out; have := QQ5.out; have := E0.out; have := M0.out; omega, by dsimp only; have := QQ0.out; have := QQ1.out; have := QQ2.out; have := QQ3.out; have := QQ4.out; have := QQ5.out; have := E0.out; have := M0.out; omega, by dsimp only; have := QQ0.out; have := QQ1.out; have := QQ2.out; have := QQ3.out; have := QQ4.out; have := QQ5.out; have := E0.out; have := M0.out; omega, by dsimp only; have := QQ0.out; have := QQ1.out; have := QQ2.out; have := QQ3.out; have := QQ4.out; have := QQ5.out; have := E0.out; have := M0.out; omega, by dsimp only; have := QQ0.out; have := QQ1.out; have := QQ2.out; have := QQ3.out; have := QQ4.out; have := QQ5.out; have := E0.out; have := M0.out; omega, by rw [hk0]; exact before_zero⟩)
            have z1 : decide (0 < k) = false := decide_eq_false (by omega)
            have z2 : decide ((0 : Int) < k) = false := decide_eq_false (by omega)
            clear hk0
            go_wp2_with (first | (have _f := f2; refine wpList_load_mid rfl 51 (.tmp 106) rfl b7 (o7 + k * 3) rfl [.int .i64 pl, .int .i64 md, .int .i64 en] _ HCO.out Try.underlying51 rfl (by kernel_rfl) ?_; clear _f f2) | (have _f := f3; refine alloc_sep rfl 51 rfl (HSN.out _) (z := .agg #[.int .i64 0, .int .i64 0, .int .i64 0]) (cs := #[.int .i64 0, .int .i64 0, .int .i64 0]) (by kernel_rfl) rfl ?_; intro wc S' b' s'; have HSc := Lib.hid S'; have HBc := Lib.hid b'; clear S' b' s' _f f3) | (have _f := f4; refine store_sep (cells := #[.int .i64 pl, .int .i64 md, .int .i64 en]) rfl 51 (.tmp 5) (.tmp 107) rfl HSc.out 0 rfl rfl rfl (by kernel_rfl) rfl rfl ?_; intro we S' k' s'; have HBe : Hid (Below wr.heap.size wr we) := Lib.hid (((Ke.below (· = wr.heap.size) HBc.out).trans k').toBelow (fun i hi e => absurd e (Nat.ne_of_lt hi))); have HBW := Lib.hid (bel_then HBR.out HBe.out); have y0 : we.cell? ⟨wr.heap.size, 0, none⟩ = some (.int .i64 pl) := ((S'.at 0 rfl).cell 0).trans rfl; have y1 : we.cell? ⟨wr.heap.size, 1, none⟩ = some (.int .i64 md) := ((S'.at 0 rfl).cell 1).trans rfl; have y2 : we.cell? ⟨wr.heap.size, 2, none⟩ = some (.int .i64 en) := ((S'.at 0 rfl).cell 2).trans rfl; have d2 : we.cell? ⟨w.heap.size, 2, none⟩ = some (.slice a2 l2.length c2) := ((HAR.out.bel HBe.out).cell 2).trans rfl; have d5 : we.cell? ⟨w.heap.size, 5, none⟩ = some (.slice a5 l5.length c5) := ((HAR.out.bel HBe.out).cell 5).trans rfl; have d7 : we.cell? ⟨w.heap.size, 7, none⟩ = some (.slice (some ⟨b7, o7, none⟩) l7.length c7) := ((HAR.out.bel HBe.out).cell 7).trans rfl; clear S' k' s' _f f4))
            have s1 : IntKind.i64.wrap ((l5.length : Int) - 1) = l5.length - 1 := IntWalk.i64_in _ (by omega)
            go_quiet (fail)
            go_wp2
            go_roundw
            case rel => exact ⟨k + 1, by go_num, HLT.out, HFT.out.next HE.out HOK.out, HBW.out.drewN' _⟩
            case measure => simp [intOf]; have := HLT.out; omega
          obtain ⟨⟨pp, pm, pe⟩, hpp⟩ := get_lt (l := l7) (i := k - 1) (by omega)
          have HPP := Lib.hid hpp
          have k0 : 0 < k := by omega
          have k1 : k - 1 < l7.length := by omega
          have k0' : (0 : Int) < k := by omega
          have z1 : decide (0 < k) = true := decide_eq_true k0
          have z2 : decide ((0 : Int) < k) = true := decide_eq_true k0'
          clear hpp hk0
          by_cases hle : pl ≤ pp
          · have HV : Hid (false = mayObj X) := Lib.hid (by rw [HX.out]; exact (may_fixups (o := ⟨nm, ky, l2, vs, l4, l5, l6, l7⟩) (HFT.out.bad HE.out (fix_no (by rw [before_succ k0 HPP.out]; simp only [decide_eq_true_eq]; omega)))).symm)
            have hle' : decide (pl ≤ pp) = true := decide_eq_true hle
            clear hle
            go_wp2_with (first | (have _f := f2; refine wpList_load_mid rfl 51 (.tmp 106) rfl b7 (o7 + k * 3) rfl [.int .i64 pl, .int .i64 md, .int .i64 en] _ HCO.out Try.underlying51 rfl (by kernel_rfl) ?_; clear _f f2) | (have _f := f3; refine alloc_sep rfl 51 rfl (HSN.out _) (z := .agg #[.int .i64 0, .int .i64 0, .int .i64 0]) (cs := #[.int .i64 0, .int .i64 0, .int .i64 0]) (by kernel_rfl) rfl ?_; intro wc S' b' s'; have HSc := Lib.hid S'; have HBc := Lib.hid b'; clear S' b' s' _f f3) | (have _f := f4; refine store_sep (cells := #[.int .i64 pl, .int .i64 md, .int .i64 en]) rfl 51 (.tmp 5) (.tmp 107) rfl HSc.out 0 rfl rfl rfl (by kernel_rfl) rfl rfl ?_; intro we S' k' s'; have HBe : Hid (Below wr.heap.size wr we) := Lib.hid (((Ke.below (· = wr.heap.size) HBc.out).trans k').toBelow (fun i hi e => absurd e (Nat.ne_of_lt hi))); have HBW := Lib.hid (bel_then HBR.out HBe.out); have y0 : we.cell? ⟨wr.heap.size, 0, none⟩ = some (.int .i64 pl) := ((S'.at 0 rfl).cell 0).trans rfl; have y1 : we.cell? ⟨wr.heap.size, 1, none⟩ = some (.int .i64 md) := ((S'.at 0 rfl).cell 1).trans rfl; have y2 : we.cell? ⟨wr.heap.size, 2, none⟩ = some (.int .i64 en) := ((S'.at 0 rfl).cell 2).trans rfl; have d2 : we.cell? ⟨w.heap.size, 2, none⟩ = some (.slice a2 l2.length c2) := ((HAR.out.bel HBe.out).cell 2).trans rfl; have d5 : we.cell? ⟨w.heap.size, 5, none⟩ = some (.slice a5 l5.length c5) := ((HAR.out.bel HBe.out).cell 5).trans rfl; have d7 : we.cell? ⟨w.heap.size, 7, none⟩ = some (.slice (some ⟨b7, o7, none⟩) l7.length c7) := ((HAR.out.bel HBe.out).cell 7).trans rfl; have z0 : we.cell? ⟨b7, o7 + (k - 1) * 3, none⟩ = some (.int .i64 pp) := (HBW.out.cell (p := ⟨b7, _, none⟩) (Nat.lt_of_lt_of_le HBN.out HB2.out.size)).trans ((HB2.out.cell (p := ⟨b7, _, none⟩) HBN.out).trans (HCELL7.out (k - 1) _ HPP.out 0 _ rfl)); clear S' k' s' _f f4))
            have s1 : IntKind.i64.wrap ((l5.length : Int) - 1) = l5.length - 1 := IntWalk.i64_in _ (by omega)
            have s2 : IntKind.i64.wrap ((k : Int) - 1) = ((k - 1 : Nat) : Int) := by rw [IntWalk.i64_in _ (by omega)]; omega
            go_quiet (fail)
            go_wp2
            go_ret
            exact ⟨ret_bool HV.out, (bel_then HB2.out HBW.out).drewN' _⟩
          have HOK : Hid (fixOk l5.length l2.length (prevF l7 k) ⟨pl, md, en⟩ = true) := Lib.hid (fix_yes ⟨by dsimp only; have := QQ0.out; have := QQ1.out; have := QQ2.out; have := QQ3.out; have := QQ4.out; have := QQ5.out; have := E0.out; have := M0.out; omega, by dsimp only; have := QQ0.out; have := QQ1.out; have := QQ2.out; have := QQ3.out; have := QQ4.out; have := QQ5.out; have := E0.out; have := M0.out; omega, by dsimp only; have := QQ0.out; have := QQ1.out; have := QQ2.out; have := QQ3.out; have := QQ4.out; have := QQ5.out; have := E0.out; have := M0.out; omega, by dsimp only; have := QQ0.out; have := QQ1.out; have := QQ2.out; have := QQ3.out; have := QQ4.out; have := QQ5.out; have := E0.out; have := M0.out; omega, by dsimp only; have := QQ0.out; have := QQ1.out; have := QQ2.out; have := QQ3.out; have := QQ4.out; have := QQ5.out; have := E0.out; have := M0.out; omega, by dsimp only; have := QQ0.out; have := QQ1.out; have := QQ2.out; have := QQ3.out; have := QQ4.out; have := QQ5.out; have := E0.out; have := M0.out; omega, by dsimp only; have := QQ0.out; have := QQ1.out; have := QQ2.out; have := QQ3.out; have := QQ4.out; have := QQ5.out; have := E0.out; have := M0.out; omega, by dsimp only; have := QQ0.out; have := QQ1.out; have := QQ2.out; have := QQ3.out; have := QQ4.out; have := QQ5.out; have := E0.out; have := M0.out; omega, by rw [before_succ k0 HPP.out]; exact decide_eq_true (by dsimp only; omega)⟩)
          have hle' : decide (pl ≤ pp) = false := decide_eq_false hle
          clear hle
          go_wp2_with (first | (have _f := f2; refine wpList_load_mid rfl 51 (.tmp 106) rfl b7 (o7 + k * 3) rfl [.int .i64 pl, .int .i64 md, .int .i64 en] _ HCO.out Try.underlying51 rfl (by kernel_rfl) ?_; clear _f f2) | (have _f := f3; refine alloc_sep rfl 51 rfl (HSN.out _) (z := .agg #[.int .i64 0, .int .i64 0, .int .i64 0]) (cs := #[.int .i64 0, .int .i64 0, .int .i64 0]) (by kernel_rfl) rfl ?_; intro wc S' b' s'; have HSc := Lib.hid S'; have HBc := Lib.hid b'; clear S' b' s' _f f3) | (have _f := f4; refine store_sep (cells := #[.int .i64 pl, .int .i64 md, .int .i64 en]) rfl 51 (.tmp 5) (.tmp 107) rfl HSc.out 0 rfl rfl rfl (by kernel_rfl) rfl rfl ?_; intro we S' k' s'; have HBe : Hid (Below wr.heap.size wr we) := Lib.hid (((Ke.below (· = wr.heap.size) HBc.out).trans k').toBelow (fun i hi e => absurd e (Nat.ne_of_lt hi))); have HBW := Lib.hid (bel_then HBR.out HBe.out); have y0 : we.cell? ⟨wr.heap.size, 0, none⟩ = some (.int .i64 pl) := ((S'.at 0 rfl).cell 0).trans rfl; have y1 : we.cell? ⟨wr.heap.size, 1, none⟩ = some (.int .i64 md) := ((S'.at 0 rfl).cell 1).trans rfl; have y2 : we.cell? ⟨wr.heap.size, 2, none⟩ = some (.int .i64 en) := ((S'.at 0 rfl).cell 2).trans rfl; have d2 : we.cell? ⟨w.heap.size, 2, none⟩ = some (.slice a2 l2.length c2) := ((HAR.out.bel HBe.out).cell 2).trans rfl; have d5 : we.cell? ⟨w.heap.size, 5, none⟩ = some (.slice a5 l5.length c5) := ((HAR.out.bel HBe.out).cell 5).trans rfl; have d7 : we.cell? ⟨w.heap.size, 7, none⟩ = some (.slice (some ⟨b7, o7, none⟩) l7.length c7) := ((HAR.out.bel HBe.out).cell 7).trans rfl; have z0 : we.cell? ⟨b7, o7 + (k - 1) * 3, none⟩ = some (.int .i64 pp) := (HBW.out.cell (p := ⟨b7, _, none⟩) (Nat.lt_of_lt_of_le HBN.out HB2.out.size)).trans ((HB2.out.cell (p := ⟨b7, _, none⟩) HBN.out).trans (HCELL7.out (k - 1) _ HPP.out 0 _ rfl)); clear S' k' s' _f f4))
          have s1 : IntKind.i64.wrap ((l5.length : Int) - 1) = l5.length - 1 := IntWalk.i64_in _ (by omega)
          have s2 : IntKind.i64.wrap ((k : Int) - 1) = ((k - 1 : Nat) : Int) := by rw [IntWalk.i64_in _ (by omega)]; omega
          go_quiet (fail)
          go_wp2
          go_roundw
          case rel => exact ⟨k + 1, by go_num, HLT.out, HFT.out.next HE.out HOK.out, HBW.out.drewN' _⟩
          case measure => simp [intOf]; have := HLT.out; omega
        · have HDN := Lib.hid (HFT.out.done (by omega))
          have HV : Hid (true = mayObj X) := Lib.hid (by rw [HX.out] at HS HC ⊢; exact (may_yes (o := ⟨nm, ky, l2, vs, l4, l5, l6, l7⟩) HMVV.out HS.out HC.out HEN.out HDN.out).symm)
          clear hk
          go_wp2
          go_ret
          exact ⟨ret_bool HV.out, bel_then HB2.out HBR.out⟩
end Go.Proofs.Yteagpjcflcahoaa
