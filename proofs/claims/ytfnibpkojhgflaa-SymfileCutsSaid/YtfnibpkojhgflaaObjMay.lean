/- Contract: object.May. Printed by bin/gen_objmay.py. -/
import Derived.Test.YtfnibpkojhgflaaObjA
import Derived.Laws.EntriesVeiled
namespace Go.Proofs.Ytfnibpkojhgflaa
set_option linter.unusedVariables false
set_option linter.unusedSimpArgs false
open Go.RowKit

set_option maxRecDepth 100000 in
set_option maxHeartbeats 16000000 in
theorem omay_walk (x : Obj) (w : World) (h : x.Rd w) :
    Calls Try.prog 23 #[x.val] w fun e w' => e = .returned (.bool (mayObj x.d)) ∧ Below w.heap.size w w' := by
  have i2 := h.imps.len
  have i4 := h.text.len
  have i5 := h.code.len
  have i6 := h.entries.len
  have i7 := h.fixups.len
  have HR := Lib.hid h
  obtain ⟨vl, vh⟩ := h.vars
  clear h
  obtain ⟨nm, ky, ⟨a2, c2, l2⟩, vs, ⟨a4, c4, l4⟩, ⟨a5, c5, l5⟩, ⟨a6, c6, l6⟩, ⟨a7, c7, l7⟩⟩ := x
  dsimp only at i2 i4 i5 i6 i7 vl vh
  obtain ⟨X, hX⟩ : ∃ X : OD, X = ⟨nm, ky, l2, vs, l4, l5, l6, l7⟩ := ⟨_, rfl⟩
  have HX := Lib.hid hX
  show Calls _ _ #[.agg #[.string nm, .int .u32 ky, .slice a2 l2.length c2, .int .i64 vs, .slice a4 l4.length c4, .slice a5 l5.length c5, .slice a6 l6.length c6, .slice a7 l7.length c7]] w fun e w' => e = .returned (.bool (mayObj ⟨nm, ky, l2, vs, l4, l5, l6, l7⟩)) ∧ _
  rw [← hX]
  clear hX
  have HMI := Lib.hid (fun (W : World) (k : Below w.heap.size w W) => imports_walk nm ⟨a2, c2, l2⟩ W HR.out.name (HR.out.imps.bel k))
  dsimp only at HMI
  have f1 : True := trivial
  cases hmi : mayImps nm l2 with
  | false =>
    have HMV := Lib.hid hmi
    clear hmi
    have HV : Hid (false = mayObj X) := Lib.hid (by rw [HX.out]; exact (may_imps HMV.out).symm)
    go_enter Try.func23, Try.ntmps23
    go_wp2_with (have _f := f1; refine (HMI.out _ (bel1 _ _)).mono ?_; rw [HMV.out]; rintro e w1 ⟨rfl, hb⟩; have HB := Lib.hid (bel_then (bel1 _ _) hb); have HA := Lib.hid ((At.new w _ 68).bel hb); have hc3 := HA.out.cell 3; have hc4 := HA.out.cell 4; have hc5 := HA.out.cell 5; have hc6 := HA.out.cell 6; have hc7 := HA.out.cell 7; simp only [List.getElem?_toArray, List.getElem?_cons_succ, List.getElem?_cons_zero] at hc3 hc4 hc5 hc6 hc7; clear hb _f f1)
    go_ret
    exact ⟨ret_bool HV.out, HB.out⟩
  | true =>
  have HMV := Lib.hid hmi
  have HMVV := Lib.hid hmi
  clear hmi
  by_cases h0 : vs < 0
  · have HP := Lib.hid h0
    have hb0 : decide (vs < 0) = true := decide_eq_true h0
    clear h0
    have HV : Hid (false = mayObj X) := Lib.hid (by rw [HX.out]; exact (may_sizes (decide_eq_false (by dsimp only; have := HP.out; omega))).symm)
    go_enter Try.func23, Try.ntmps23
    go_wp2_with (have _f := f1; refine (HMI.out _ (bel1 _ _)).mono ?_; rw [HMV.out]; rintro e w1 ⟨rfl, hb⟩; have HB := Lib.hid (bel_then (bel1 _ _) hb); have HA := Lib.hid ((At.new w _ 68).bel hb); have hc3 := HA.out.cell 3; have hc4 := HA.out.cell 4; have hc5 := HA.out.cell 5; have hc6 := HA.out.cell 6; have hc7 := HA.out.cell 7; simp only [List.getElem?_toArray, List.getElem?_cons_succ, List.getElem?_cons_zero] at hc3 hc4 hc5 hc6 hc7; clear hb _f f1)
    go_ret
    exact ⟨ret_bool HV.out, HB.out⟩
  have HP0 := Lib.hid h0
  have hb0 : decide (vs < 0) = false := decide_eq_false h0
  clear h0
  have v0 : 0 ≤ vs := by have := HP0.out; omega
  by_cases h1 : vs % 4 ≠ 0
  · have HP := Lib.hid h1
    have hb1 : (vs % 4 != 0) = true := by simpa using h1
    clear h1
    have HV : Hid (false = mayObj X) := Lib.hid (by rw [HX.out]; exact (may_sizes (decide_eq_false (by dsimp only; have := HP.out; omega))).symm)
    go_enter Try.func23, Try.ntmps23
    go_wp2_with (have _f := f1; refine (HMI.out _ (bel1 _ _)).mono ?_; rw [HMV.out]; rintro e w1 ⟨rfl, hb⟩; have HB := Lib.hid (bel_then (bel1 _ _) hb); have HA := Lib.hid ((At.new w _ 68).bel hb); have hc3 := HA.out.cell 3; have hc4 := HA.out.cell 4; have hc5 := HA.out.cell 5; have hc6 := HA.out.cell 6; have hc7 := HA.out.cell 7; simp only [List.getElem?_toArray, List.getElem?_cons_succ, List.getElem?_cons_zero] at hc3 hc4 hc5 hc6 hc7; clear hb _f f1)
    go_ret
    exact ⟨ret_bool HV.out, HB.out⟩
  have HP1 := Lib.hid h1
  have hb1 : (vs % 4 != 0) = false := by simpa using h1
  clear h1
  by_cases h2 : (l4.length : Int) % 4 ≠ 0
  · have HP := Lib.hid h2
    have hb2 : ((l4.length : Int) % 4 != 0) = true := by simpa using h2
    clear h2
    have HV : Hid (false = mayObj X) := Lib.hid (by rw [HX.out]; exact (may_sizes (decide_eq_false (by dsimp only; have := HP.out; omega))).symm)
    go_enter Try.func23, Try.ntmps23
    go_wp2_with (have _f := f1; refine (HMI.out _ (bel1 _ _)).mono ?_; rw [HMV.out]; rintro e w1 ⟨rfl, hb⟩; have HB := Lib.hid (bel_then (bel1 _ _) hb); have HA := Lib.hid ((At.new w _ 68).bel hb); have hc3 := HA.out.cell 3; have hc4 := HA.out.cell 4; have hc5 := HA.out.cell 5; have hc6 := HA.out.cell 6; have hc7 := HA.out.cell 7; simp only [List.getElem?_toArray, List.getElem?_cons_succ, List.getElem?_cons_zero] at hc3 hc4 hc5 hc6 hc7; clear hb _f f1)
    go_ret
    exact ⟨ret_bool HV.out, HB.out⟩
  have HP2 := Lib.hid h2
  have hb2 : ((l4.length : Int) % 4 != 0) = false := by simpa using h2
  clear h2
  by_cases h3 : (8192 : Int) < l4.length
  · have HP := Lib.hid h3
    have hb3 : decide ((8192 : Int) < l4.length) = true := decide_eq_true h3
    clear h3
    have HV : Hid (false = mayObj X) := Lib.hid (by rw [HX.out]; exact (may_sizes (decide_eq_false (by dsimp only; have := HP.out; omega))).symm)
    go_enter Try.func23, Try.ntmps23
    go_wp2_with (have _f := f1; refine (HMI.out _ (bel1 _ _)).mono ?_; rw [HMV.out]; rintro e w1 ⟨rfl, hb⟩; have HB := Lib.hid (bel_then (bel1 _ _) hb); have HA := Lib.hid ((At.new w _ 68).bel hb); have hc3 := HA.out.cell 3; have hc4 := HA.out.cell 4; have hc5 := HA.out.cell 5; have hc6 := HA.out.cell 6; have hc7 := HA.out.cell 7; simp only [List.getElem?_toArray, List.getElem?_cons_succ, List.getElem?_cons_zero] at hc3 hc4 hc5 hc6 hc7; clear hb _f f1)
    go_ret
    exact ⟨ret_bool HV.out, HB.out⟩
  have HP3 := Lib.hid h3
  have hb3 : decide ((8192 : Int) < l4.length) = false := decide_eq_false h3
  clear h3
  have v2 : (l4.length : Int) ≤ 8192 := by have := HP3.out; omega
  by_cases h4 : 262144 - (l4.length : Int) < vs
  · have HP := Lib.hid h4
    have hb4 : decide (262144 - (l4.length : Int) < vs) = true := decide_eq_true h4
    clear h4
    have HV : Hid (false = mayObj X) := Lib.hid (by rw [HX.out]; exact (may_sizes (decide_eq_false (by dsimp only; have := HP.out; omega))).symm)
    go_enter Try.func23, Try.ntmps23
    go_wp2_with (have _f := f1; refine (HMI.out _ (bel1 _ _)).mono ?_; rw [HMV.out]; rintro e w1 ⟨rfl, hb⟩; have HB := Lib.hid (bel_then (bel1 _ _) hb); have HA := Lib.hid ((At.new w _ 68).bel hb); have hc3 := HA.out.cell 3; have hc4 := HA.out.cell 4; have hc5 := HA.out.cell 5; have hc6 := HA.out.cell 6; have hc7 := HA.out.cell 7; simp only [List.getElem?_toArray, List.getElem?_cons_succ, List.getElem?_cons_zero] at hc3 hc4 hc5 hc6 hc7; clear hb _f f1)
    go_ret
    exact ⟨ret_bool HV.out, HB.out⟩
  have HP4 := Lib.hid h4
  have hb4 : decide (262144 - (l4.length : Int) < vs) = false := decide_eq_false h4
  clear h4
  have v1 : vs ≤ 262144 := by have := HP4.out; omega
  by_cases h5 : (16384 : Int) < l5.length
  · have HP := Lib.hid h5
    have hb5 : decide ((16384 : Int) < l5.length) = true := decide_eq_true h5
    clear h5
    have HV : Hid (false = mayObj X) := Lib.hid (by rw [HX.out]; exact (may_counts (decide_eq_false (by dsimp only; have := HP.out; omega))).symm)
    go_enter Try.func23, Try.ntmps23
    go_wp2_with (have _f := f1; refine (HMI.out _ (bel1 _ _)).mono ?_; rw [HMV.out]; rintro e w1 ⟨rfl, hb⟩; have HB := Lib.hid (bel_then (bel1 _ _) hb); have HA := Lib.hid ((At.new w _ 68).bel hb); have hc3 := HA.out.cell 3; have hc4 := HA.out.cell 4; have hc5 := HA.out.cell 5; have hc6 := HA.out.cell 6; have hc7 := HA.out.cell 7; simp only [List.getElem?_toArray, List.getElem?_cons_succ, List.getElem?_cons_zero] at hc3 hc4 hc5 hc6 hc7; clear hb _f f1)
    go_ret
    exact ⟨ret_bool HV.out, HB.out⟩
  have HP5 := Lib.hid h5
  have hb5 : decide ((16384 : Int) < l5.length) = false := decide_eq_false h5
  clear h5
  have v3 : (l5.length : Int) ≤ 16384 := by have := HP5.out; omega
  by_cases h6 : (l6.length : Int) < 1
  · have HP := Lib.hid h6
    have HV : Hid (false = mayObj X) := Lib.hid (by rw [HX.out]; exact (may_counts (decide_eq_false (by dsimp only; have := HP.out; omega))).symm)
    go_enter Try.func23, Try.ntmps23
    go_wp2_with (have _f := f1; refine (HMI.out _ (bel1 _ _)).mono ?_; rw [HMV.out]; rintro e w1 ⟨rfl, hb⟩; have HB := Lib.hid (bel_then (bel1 _ _) hb); have HA := Lib.hid ((At.new w _ 68).bel hb); have hc3 := HA.out.cell 3; have hc4 := HA.out.cell 4; have hc5 := HA.out.cell 5; have hc6 := HA.out.cell 6; have hc7 := HA.out.cell 7; simp only [List.getElem?_toArray, List.getElem?_cons_succ, List.getElem?_cons_zero] at hc3 hc4 hc5 hc6 hc7; clear hb _f f1)
    go_ret
    exact ⟨ret_bool HV.out, HB.out⟩
  have HP6 := Lib.hid h6
  by_cases h7 : (201 : Int) < l6.length
  · have HP := Lib.hid h7
    have hb7 : decide ((201 : Int) < l6.length) = true := decide_eq_true h7
    clear h7
    have HV : Hid (false = mayObj X) := Lib.hid (by rw [HX.out]; exact (may_counts (decide_eq_false (by dsimp only; have := HP.out; omega))).symm)
    go_enter Try.func23, Try.ntmps23
    go_wp2_with (have _f := f1; refine (HMI.out _ (bel1 _ _)).mono ?_; rw [HMV.out]; rintro e w1 ⟨rfl, hb⟩; have HB := Lib.hid (bel_then (bel1 _ _) hb); have HA := Lib.hid ((At.new w _ 68).bel hb); have hc3 := HA.out.cell 3; have hc4 := HA.out.cell 4; have hc5 := HA.out.cell 5; have hc6 := HA.out.cell 6; have hc7 := HA.out.cell 7; simp only [List.getElem?_toArray, List.getElem?_cons_succ, List.getElem?_cons_zero] at hc3 hc4 hc5 hc6 hc7; clear hb _f f1)
    go_ret
    exact ⟨ret_bool HV.out, HB.out⟩
  have HP7 := Lib.hid h7
  have hb7 : decide ((201 : Int) < l6.length) = false := decide_eq_false h7
  clear h7
  by_cases h8 : (8192 : Int) < l7.length
  · have HP := Lib.hid h8
    have hb8 : decide ((8192 : Int) < l7.length) = true := decide_eq_true h8
    clear h8
    have HV : Hid (false = mayObj X) := Lib.hid (by rw [HX.out]; exact (may_counts (decide_eq_false (by dsimp only; have := HP.out; omega))).symm)
    go_enter Try.func23, Try.ntmps23
    go_wp2_with (have _f := f1; refine (HMI.out _ (bel1 _ _)).mono ?_; rw [HMV.out]; rintro e w1 ⟨rfl, hb⟩; have HB := Lib.hid (bel_then (bel1 _ _) hb); have HA := Lib.hid ((At.new w _ 68).bel hb); have hc3 := HA.out.cell 3; have hc4 := HA.out.cell 4; have hc5 := HA.out.cell 5; have hc6 := HA.out.cell 6; have hc7 := HA.out.cell 7; simp only [List.getElem?_toArray, List.getElem?_cons_succ, List.getElem?_cons_zero] at hc3 hc4 hc5 hc6 hc7; clear hb _f f1)
    go_ret
    exact ⟨ret_bool HV.out, HB.out⟩
  have HP8 := Lib.hid h8
  have hb8 : decide ((8192 : Int) < l7.length) = false := decide_eq_false h8
  clear h8
  have HS : Hid (sizesOk X = true) := Lib.hid (by rw [HX.out]; refine decide_eq_true ?_; dsimp only; have := HP0.out; have := HP1.out; have := HP2.out; have := HP3.out; have := HP4.out; omega)
  have HC : Hid (countsOk X = true) := Lib.hid (by rw [HX.out]; refine decide_eq_true ?_; dsimp only; have := HP5.out; have := HP6.out; have := HP7.out; have := HP8.out; omega)
  have f2 : True := trivial
  cases hal : l6.all (inN l5.length) with
  | false =>
    have HAL := Lib.hid hal
    have HV : Hid (false = mayObj X) := Lib.hid (by rw [HX.out]; unfold mayObj; dsimp only; rw [hal]; simp)
    clear hal
    go_enter Try.func23, Try.ntmps23
    go_wp2_with (first | (have _f := f1; refine (HMI.out _ (bel1 _ _)).mono ?_; rw [HMV.out]; rintro e w1 ⟨rfl, hb⟩; have HB := Lib.hid (bel_then (bel1 _ _) hb); have HA := Lib.hid ((At.new w _ 68).bel hb); have hc3 := HA.out.cell 3; have hc4 := HA.out.cell 4; have hc5 := HA.out.cell 5; have hc6 := HA.out.cell 6; have hc7 := HA.out.cell 7; simp only [List.getElem?_toArray, List.getElem?_cons_succ, List.getElem?_cons_zero] at hc3 hc4 hc5 hc6 hc7; have HW3 := Lib.hid (bel_then HB.out (bel1 w1 (.cells #[(.func (.func 52) #[] #[.pointer (some ⟨w.heap.size, 0, none⟩)])] 102))); have HA3 := Lib.hid (HA.out.bel (bel1 w1 (.cells #[(.func (.func 52) #[] #[.pointer (some ⟨w.heap.size, 0, none⟩)])] 102))); have HF3 : Hid ((w1.alloc (.cells #[(.func (.func 52) #[] #[.pointer (some ⟨w.heap.size, 0, none⟩)])] 102)).cell? ⟨w1.heap.size, 0, none⟩ = some (.func (.func 52) #[] #[.pointer (some ⟨w.heap.size, 0, none⟩)])) := Lib.hid ((At.new w1 _ 102).cell 0); have hd6 : (w1.alloc (.cells #[(.func (.func 52) #[] #[.pointer (some ⟨w.heap.size, 0, none⟩)])] 102)).cell? ⟨w.heap.size, 6, none⟩ = some (.slice a6 l6.length c6) := (HA3.out.cell 6).trans rfl; have hd7 : (w1.alloc (.cells #[(.func (.func 52) #[] #[.pointer (some ⟨w.heap.size, 0, none⟩)])] 102)).cell? ⟨w.heap.size, 7, none⟩ = some (.slice a7 l7.length c7) := (HA3.out.cell 7).trans rfl; clear hb _f f1) | (have _f := f2; refine (containsInt_walk ⟨a6, c6, l6⟩ w1.heap.size w.heap.size l5.length a5 c5 _ (HR.out.entries.bel HW3.out) HF3.out ((HA3.out.cell 5).trans rfl)).mono ?_; dsimp only; rw [HAL.out]; rintro e w2 ⟨rfl, rfl⟩; clear _f f2))
    go_ret
    exact ⟨ret_bool HV.out, HW3.out⟩
  | true =>
    have HAL := Lib.hid hal
    clear hal
    go_enter Try.func23, Try.ntmps23
    go_wp2_with (first | (have _f := f1; refine (HMI.out _ (bel1 _ _)).mono ?_; rw [HMV.out]; rintro e w1 ⟨rfl, hb⟩; have HB := Lib.hid (bel_then (bel1 _ _) hb); have HA := Lib.hid ((At.new w _ 68).bel hb); have hc3 := HA.out.cell 3; have hc4 := HA.out.cell 4; have hc5 := HA.out.cell 5; have hc6 := HA.out.cell 6; have hc7 := HA.out.cell 7; simp only [List.getElem?_toArray, List.getElem?_cons_succ, List.getElem?_cons_zero] at hc3 hc4 hc5 hc6 hc7; have HW3 := Lib.hid (bel_then HB.out (bel1 w1 (.cells #[(.func (.func 52) #[] #[.pointer (some ⟨w.heap.size, 0, none⟩)])] 102))); have HA3 := Lib.hid (HA.out.bel (bel1 w1 (.cells #[(.func (.func 52) #[] #[.pointer (some ⟨w.heap.size, 0, none⟩)])] 102))); have HF3 : Hid ((w1.alloc (.cells #[(.func (.func 52) #[] #[.pointer (some ⟨w.heap.size, 0, none⟩)])] 102)).cell? ⟨w1.heap.size, 0, none⟩ = some (.func (.func 52) #[] #[.pointer (some ⟨w.heap.size, 0, none⟩)])) := Lib.hid ((At.new w1 _ 102).cell 0); have hd6 : (w1.alloc (.cells #[(.func (.func 52) #[] #[.pointer (some ⟨w.heap.size, 0, none⟩)])] 102)).cell? ⟨w.heap.size, 6, none⟩ = some (.slice a6 l6.length c6) := (HA3.out.cell 6).trans rfl; have hd7 : (w1.alloc (.cells #[(.func (.func 52) #[] #[.pointer (some ⟨w.heap.size, 0, none⟩)])] 102)).cell? ⟨w.heap.size, 7, none⟩ = some (.slice a7 l7.length c7) := (HA3.out.cell 7).trans rfl; clear hb _f f1) | (have _f := f2; refine (containsInt_walk ⟨a6, c6, l6⟩ w1.heap.size w.heap.size l5.length a5 c5 _ (HR.out.entries.bel HW3.out) HF3.out ((HA3.out.cell 5).trans rfl)).mono ?_; dsimp only; rw [HAL.out]; rintro e w2 ⟨rfl, rfl⟩; clear _f f2))
    have HEN : Hid (∀ (j : Nat) (y : Int), l6[j]? = some y → inN l5.length y = true) := Lib.hid (fun j y hy => List.all_eq_true.1 HAL.out y (List.mem_of_getElem? hy))
    clear HMI HMV hb0 hb1 hb2 hb3 hb4 hb5 hb7 hb8 h6 HP0 HP1 HP2 HP3 HP4 HP5 HP6 HP7 HP8 v0 v1 v2 hc3 hc4 hc5 hc6 hc7 hd6 hd7
    obtain ⟨w3, hw3⟩ : ∃ W, W = (w1.alloc (.cells #[(.func (.func 52) #[] #[.pointer (some ⟨w.heap.size, 0, none⟩)])] 102)) := ⟨_, rfl⟩
    obtain ⟨g3, hg3⟩ : ∃ g3, g3 = w1.heap.size := ⟨_, rfl⟩
    have HG3 : Hid (g3 < w3.heap.size) := Lib.hid (by rw [hg3, hw3]; simp)
    rw [← hw3] at HW3 HA3 HF3 ⊢
    rw [← hg3] at HF3 ⊢
    clear hw3 hg3 HB HA
    obtain ⟨b7, o7, hat7, hcell7⟩ := HR.out.fixups.at'
    have HAT7 := Lib.hid hat7
    have HCELL7 := Lib.hid hcell7
    have HSN := Lib.hid (fun w' : World => Sep.nil w')
    clear hat7 hcell7
    dsimp only at HAT7 HCELL7
    have i00 : (0 : Int) ≤ l7.length := by omega
    go_loopw [76] (fun i wr => ∃ k : Nat, i = .int .i64 k ∧ k ≤ l7.length ∧ FixTo l5.length l2.length l7 k ∧ Below w3.heap.size w3 wr) (fun i _ => l7.length - (intOf i).toNat)
    case atStart => exact ⟨0, rfl, Nat.zero_le _, FixTo.start _ _ _, Below.refl _ _⟩
    case round =>
      obtain ⟨k, rfl, hk, hft, hbr⟩ := hrel
      have HFT := Lib.hid hft
      have HBR := Lib.hid hbr
      have HAR := Lib.hid (HA3.out.bel hbr)
      have HFR : Hid (wr.cell? ⟨g3, 0, none⟩ = some (.func (.func 52) #[] #[.pointer (some ⟨w.heap.size, 0, none⟩)])) := Lib.hid ((hbr.cell HG3.out).trans HF3.out)
      clear hft hbr
      by_cases hlt : k < l7.length
      · obtain ⟨⟨pl, md, en⟩, he⟩ := get_lt hlt
        obtain ⟨rfl, hb⟩ := HAT7.out (by omega)
        have hco : ∀ (q : Nat) (y : Value), ([.int .i64 pl, .int .i64 md, .int .i64 en] : List Value)[q]? = some y → wr.cell? ⟨b7, o7 + k * 3 + q, none⟩ = some y := fun q y hy => (HBR.out.cell (p := ⟨b7, o7 + k * 3 + q, none⟩) (Nat.lt_of_lt_of_le hb HW3.out.size)).trans ((HW3.out.cell (p := ⟨b7, o7 + k * 3 + q, none⟩) hb).trans (HCELL7.out k _ he q y hy))
        have HCO := Lib.hid hco
        have HE := Lib.hid he
        have HLT := Lib.hid hlt
        obtain ⟨⟨x0l, x0h⟩, ⟨x1l, x1h⟩, ⟨x2l, x2h⟩⟩ := HR.out.fixups.all _ (List.mem_of_getElem? he)
        dsimp only at x0l x0h x1l x1h x2l x2h
        have HBN := Lib.hid hb
        clear he hb hco
        have f3 : True := trivial
        have f4 : True := trivial
        have f5 : True := trivial
        by_cases q0 : en < 0
        · have HV : Hid (false = mayObj X) := Lib.hid (by rw [HX.out]; exact (may_fixups (o := ⟨nm, ky, l2, vs, l4, l5, l6, l7⟩) (HFT.out.bad HE.out (fix_no (by dsimp only; omega)))).symm)
          have e1 : ¬ 1 < en := by omega
          have hq0 : decide (en < 0) = true := decide_eq_true q0
          clear q0
          go_wp2_with (first | (have _f := f3; refine wpList_load_mid rfl 105 (.tmp 79) rfl b7 (o7 + k * 3) rfl [.int .i64 pl, .int .i64 md, .int .i64 en] _ HCO.out Try.underlying105 rfl (by kernel_rfl) ?_; clear _f f3) | (have _f := f4; refine alloc_sep rfl 105 rfl (HSN.out _) (z := .agg #[.int .i64 0, .int .i64 0, .int .i64 0]) (cs := #[.int .i64 0, .int .i64 0, .int .i64 0]) (by kernel_rfl) rfl ?_; intro wc S' b' s'; have HSc := Lib.hid S'; have HBc := Lib.hid b'; clear S' b' s' _f f4) | (have _f := f5; refine store_sep (cells := #[.int .i64 pl, .int .i64 md, .int .i64 en]) rfl 105 (.tmp 5) (.tmp 80) rfl HSc.out 0 rfl rfl rfl (by kernel_rfl) rfl rfl ?_; intro we S' k' s'; have HBe : Hid (Below wr.heap.size wr we) := Lib.hid (((Ke.below (· = wr.heap.size) HBc.out).trans k').toBelow (fun i hi e => absurd e (Nat.ne_of_lt hi))); have HBW := Lib.hid (bel_then HBR.out HBe.out); have HXE := Lib.hid (S'.at 0 rfl); have y2 : we.cell? ⟨wr.heap.size, 2, none⟩ = some (.int .i64 en) := ((S'.at 0 rfl).cell 2).trans rfl; clear S' k' s' _f f5))
          refine wp_region_mix' [([0, 1, 2, 3, 4, 5, 6, 7, 8, 9, 10, 11, 12, 13, 14, 15, 16, 17, 18, 19, 20, 21, 22, 23, 24, 25], 26), ([27, 28, 29, 30, 31, 32, 33, 34, 35, 36, 37], 38)] [39, 40, 41, 42, 43, 44, 45, 46, 47, 48, 49, 50, 51, 52, 53, 54, 55, 56, 57] (by kernel_rfl) (by kernel_rfl) (fun _ _ d _ _ h => by cases d <;> exact h) ?_
          intro wd hbd
          have HBD := Lib.hid (bel_then HBW.out hbd)
          have hxd := HXE.out.bel hbd
          have had := (HAR.out.bel HBe.out).bel hbd
          have x0 := fun (x : Later (Below wd.heap.size wd)) => hxd.laterCellB 0 (v := .int .i64 pl) rfl x
          have x1 := fun (x : Later (Below wd.heap.size wd)) => hxd.laterCellB 1 (v := .int .i64 md) rfl x
          have x2 := fun (x : Later (Below wd.heap.size wd)) => hxd.laterCellB 2 (v := .int .i64 en) rfl x
          have z2 := fun (x : Later (Below wd.heap.size wd)) => had.laterCellB 2 (v := .slice a2 l2.length c2) rfl x
          have zf := fun (x : Later (Below wd.heap.size wd)) => later_cell (p := ⟨g3, 0, none⟩) (Nat.lt_of_lt_of_le HG3.out HBD.out.size) ((HBD.out.cell HG3.out).trans HF3.out) x
          have HC5 : Hid (wd.cell? ⟨w.heap.size, 5, none⟩ = some (.slice a5 l5.length c5)) := Lib.hid ((had.cell 5).trans rfl)
          clear hbd hxd had y2
          refine mix_step ?_
          simp only [pickOps, nth, Act.put, List.setIfInBounds_toArray, List.set_cons_succ, List.set_cons_zero]
          (repeat (go_big_quiet_step (fail)))
          refine wpQuiet_nil ?_
          go_wp2
          refine ⟨Below.refl _ _, mix_step ?_⟩
          simp only [pickOps, nth, Act.put, List.setIfInBounds_toArray, List.set_cons_succ, List.set_cons_zero]
          (repeat (go_big_quiet_step (fail)))
          refine wpQuiet_nil ?_
          go_wp2
          refine ⟨Below.refl _ _, mix_end ?_⟩
          simp only [pickOps, nth, Act.put, List.setIfInBounds_toArray, List.set_cons_succ, List.set_cons_zero]
          (repeat (go_big_quiet_step (fail)))
          refine wpQuiet_nil ?_
          clear x0 x1 x2 z2 zf
          go_wp2
          go_ret
          exact ⟨ret_bool HV.out, bel_then HW3.out HBD.out⟩
        have hq0 : decide (en < 0) = false := decide_eq_false q0
        have Q0 := Lib.hid q0
        clear q0
        by_cases q1 : 200 < en
        · have HV : Hid (false = mayObj X) := Lib.hid (by rw [HX.out]; exact (may_fixups (o := ⟨nm, ky, l2, vs, l4, l5, l6, l7⟩) (HFT.out.bad HE.out (fix_no (by dsimp only; omega)))).symm)
          have e1 : 1 < en := by omega
          have hq1 : decide (200 < en) = true := decide_eq_true q1
          clear q1
          go_wp2_with (first | (have _f := f3; refine wpList_load_mid rfl 105 (.tmp 79) rfl b7 (o7 + k * 3) rfl [.int .i64 pl, .int .i64 md, .int .i64 en] _ HCO.out Try.underlying105 rfl (by kernel_rfl) ?_; clear _f f3) | (have _f := f4; refine alloc_sep rfl 105 rfl (HSN.out _) (z := .agg #[.int .i64 0, .int .i64 0, .int .i64 0]) (cs := #[.int .i64 0, .int .i64 0, .int .i64 0]) (by kernel_rfl) rfl ?_; intro wc S' b' s'; have HSc := Lib.hid S'; have HBc := Lib.hid b'; clear S' b' s' _f f4) | (have _f := f5; refine store_sep (cells := #[.int .i64 pl, .int .i64 md, .int .i64 en]) rfl 105 (.tmp 5) (.tmp 80) rfl HSc.out 0 rfl rfl rfl (by kernel_rfl) rfl rfl ?_; intro we S' k' s'; have HBe : Hid (Below wr.heap.size wr we) := Lib.hid (((Ke.below (· = wr.heap.size) HBc.out).trans k').toBelow (fun i hi e => absurd e (Nat.ne_of_lt hi))); have HBW := Lib.hid (bel_then HBR.out HBe.out); have HXE := Lib.hid (S'.at 0 rfl); have y2 : we.cell? ⟨wr.heap.size, 2, none⟩ = some (.int .i64 en) := ((S'.at 0 rfl).cell 2).trans rfl; clear S' k' s' _f f5))
          refine wp_region_mix' [([0, 1, 2, 3, 4, 5, 6, 7, 8, 9, 10, 11, 12, 13, 14, 15, 16, 17, 18, 19, 20, 21, 22, 23, 24, 25], 26), ([27, 28, 29, 30, 31, 32, 33, 34, 35, 36, 37], 38)] [39, 40, 41, 42, 43, 44, 45, 46, 47, 48, 49, 50, 51, 52, 53, 54, 55, 56, 57] (by kernel_rfl) (by kernel_rfl) (fun _ _ d _ _ h => by cases d <;> exact h) ?_
          intro wd hbd
          have HBD := Lib.hid (bel_then HBW.out hbd)
          have hxd := HXE.out.bel hbd
          have had := (HAR.out.bel HBe.out).bel hbd
          have x0 := fun (x : Later (Below wd.heap.size wd)) => hxd.laterCellB 0 (v := .int .i64 pl) rfl x
          have x1 := fun (x : Later (Below wd.heap.size wd)) => hxd.laterCellB 1 (v := .int .i64 md) rfl x
          have x2 := fun (x : Later (Below wd.heap.size wd)) => hxd.laterCellB 2 (v := .int .i64 en) rfl x
          have z2 := fun (x : Later (Below wd.heap.size wd)) => had.laterCellB 2 (v := .slice a2 l2.length c2) rfl x
          have zf := fun (x : Later (Below wd.heap.size wd)) => later_cell (p := ⟨g3, 0, none⟩) (Nat.lt_of_lt_of_le HG3.out HBD.out.size) ((HBD.out.cell HG3.out).trans HF3.out) x
          have HC5 : Hid (wd.cell? ⟨w.heap.size, 5, none⟩ = some (.slice a5 l5.length c5)) := Lib.hid ((had.cell 5).trans rfl)
          clear hbd hxd had y2
          refine mix_step ?_
          simp only [pickOps, nth, Act.put, List.setIfInBounds_toArray, List.set_cons_succ, List.set_cons_zero]
          (repeat (go_big_quiet_step (fail)))
          refine wpQuiet_nil ?_
          go_wp2
          refine ⟨Below.refl _ _, mix_step ?_⟩
          simp only [pickOps, nth, Act.put, List.setIfInBounds_toArray, List.set_cons_succ, List.set_cons_zero]
          (repeat (go_big_quiet_step (fail)))
          refine wpQuiet_nil ?_
          go_wp2
          refine ⟨Below.refl _ _, mix_end ?_⟩
          simp only [pickOps, nth, Act.put, List.setIfInBounds_toArray, List.set_cons_succ, List.set_cons_zero]
          (repeat (go_big_quiet_step (fail)))
          refine wpQuiet_nil ?_
          clear x0 x1 x2 z2 zf
          go_wp2
          go_ret
          exact ⟨ret_bool HV.out, bel_then HW3.out HBD.out⟩
        have hq1 : decide (200 < en) = false := decide_eq_false q1
        have Q1 := Lib.hid q1
        clear q1
        by_cases e1 : 1 < en
        · skip
          by_cases q2 : md < 1
          · have HV : Hid (false = mayObj X) := Lib.hid (by rw [HX.out]; exact (may_fixups (o := ⟨nm, ky, l2, vs, l4, l5, l6, l7⟩) (HFT.out.bad HE.out (fix_no (by dsimp only; have := Q0.out; omega)))).symm)
            have hq2 : decide (md < 1) = true := decide_eq_true q2
            have hq2' := q2
            go_wp2_with (first | (have _f := f3; refine wpList_load_mid rfl 105 (.tmp 79) rfl b7 (o7 + k * 3) rfl [.int .i64 pl, .int .i64 md, .int .i64 en] _ HCO.out Try.underlying105 rfl (by kernel_rfl) ?_; clear _f f3) | (have _f := f4; refine alloc_sep rfl 105 rfl (HSN.out _) (z := .agg #[.int .i64 0, .int .i64 0, .int .i64 0]) (cs := #[.int .i64 0, .int .i64 0, .int .i64 0]) (by kernel_rfl) rfl ?_; intro wc S' b' s'; have HSc := Lib.hid S'; have HBc := Lib.hid b'; clear S' b' s' _f f4) | (have _f := f5; refine store_sep (cells := #[.int .i64 pl, .int .i64 md, .int .i64 en]) rfl 105 (.tmp 5) (.tmp 80) rfl HSc.out 0 rfl rfl rfl (by kernel_rfl) rfl rfl ?_; intro we S' k' s'; have HBe : Hid (Below wr.heap.size wr we) := Lib.hid (((Ke.below (· = wr.heap.size) HBc.out).trans k').toBelow (fun i hi e => absurd e (Nat.ne_of_lt hi))); have HBW := Lib.hid (bel_then HBR.out HBe.out); have HXE := Lib.hid (S'.at 0 rfl); have y2 : we.cell? ⟨wr.heap.size, 2, none⟩ = some (.int .i64 en) := ((S'.at 0 rfl).cell 2).trans rfl; clear S' k' s' _f f5))
            refine wp_region_mix' [([0, 1, 2, 3, 4, 5, 6, 7, 8, 9, 10, 11, 12, 13, 14, 15, 16, 17, 18, 19, 20, 21, 22, 23, 24, 25], 26), ([27, 28, 29, 30, 31, 32, 33, 34, 35, 36, 37], 38)] [39, 40, 41, 42, 43, 44, 45, 46, 47, 48, 49, 50, 51, 52, 53, 54, 55, 56, 57] (by kernel_rfl) (by kernel_rfl) (fun _ _ d _ _ h => by cases d <;> exact h) ?_
            intro wd hbd
            have HBD := Lib.hid (bel_then HBW.out hbd)
            have hxd := HXE.out.bel hbd
            have had := (HAR.out.bel HBe.out).bel hbd
            have x0 := fun (x : Later (Below wd.heap.size wd)) => hxd.laterCellB 0 (v := .int .i64 pl) rfl x
            have x1 := fun (x : Later (Below wd.heap.size wd)) => hxd.laterCellB 1 (v := .int .i64 md) rfl x
            have x2 := fun (x : Later (Below wd.heap.size wd)) => hxd.laterCellB 2 (v := .int .i64 en) rfl x
            have z2 := fun (x : Later (Below wd.heap.size wd)) => had.laterCellB 2 (v := .slice a2 l2.length c2) rfl x
            have zf := fun (x : Later (Below wd.heap.size wd)) => later_cell (p := ⟨g3, 0, none⟩) (Nat.lt_of_lt_of_le HG3.out HBD.out.size) ((HBD.out.cell HG3.out).trans HF3.out) x
            have HC5 : Hid (wd.cell? ⟨w.heap.size, 5, none⟩ = some (.slice a5 l5.length c5)) := Lib.hid ((had.cell 5).trans rfl)
            clear hbd hxd had y2
            refine mix_step ?_
            simp only [pickOps, nth, Act.put, List.setIfInBounds_toArray, List.set_cons_succ, List.set_cons_zero]
            (repeat (go_big_quiet_step (fail)))
            refine wpQuiet_nil ?_
            go_wp2
            refine ⟨Below.refl _ _, mix_step ?_⟩
            simp only [pickOps, nth, Act.put, List.setIfInBounds_toArray, List.set_cons_succ, List.set_cons_zero]
            (repeat (go_big_quiet_step (fail)))
            refine wpQuiet_nil ?_
            go_wp2
            refine ⟨Below.refl _ _, mix_end ?_⟩
            simp only [pickOps, nth, Act.put, List.setIfInBounds_toArray, List.set_cons_succ, List.set_cons_zero]
            (repeat (go_big_quiet_step (fail)))
            refine wpQuiet_nil ?_
            clear x0 x1 x2 z2 zf
            go_wp2
            go_ret
            exact ⟨ret_bool HV.out, bel_then HW3.out HBD.out⟩
          have hq2 : decide (md < 1) = false := decide_eq_false q2
          have Q2 := Lib.hid q2
          by_cases q3 : (l2.length : Int) < md
          · have HV : Hid (false = mayObj X) := Lib.hid (by rw [HX.out]; exact (may_fixups (o := ⟨nm, ky, l2, vs, l4, l5, l6, l7⟩) (HFT.out.bad HE.out (fix_no (by dsimp only; omega)))).symm)
            have hq3 : decide ((l2.length : Int) < md) = true := decide_eq_true q3
            clear q3
            go_wp2_with (first | (have _f := f3; refine wpList_load_mid rfl 105 (.tmp 79) rfl b7 (o7 + k * 3) rfl [.int .i64 pl, .int .i64 md, .int .i64 en] _ HCO.out Try.underlying105 rfl (by kernel_rfl) ?_; clear _f f3) | (have _f := f4; refine alloc_sep rfl 105 rfl (HSN.out _) (z := .agg #[.int .i64 0, .int .i64 0, .int .i64 0]) (cs := #[.int .i64 0, .int .i64 0, .int .i64 0]) (by kernel_rfl) rfl ?_; intro wc S' b' s'; have HSc := Lib.hid S'; have HBc := Lib.hid b'; clear S' b' s' _f f4) | (have _f := f5; refine store_sep (cells := #[.int .i64 pl, .int .i64 md, .int .i64 en]) rfl 105 (.tmp 5) (.tmp 80) rfl HSc.out 0 rfl rfl rfl (by kernel_rfl) rfl rfl ?_; intro we S' k' s'; have HBe : Hid (Below wr.heap.size wr we) := Lib.hid (((Ke.below (· = wr.heap.size) HBc.out).trans k').toBelow (fun i hi e => absurd e (Nat.ne_of_lt hi))); have HBW := Lib.hid (bel_then HBR.out HBe.out); have HXE := Lib.hid (S'.at 0 rfl); have y2 : we.cell? ⟨wr.heap.size, 2, none⟩ = some (.int .i64 en) := ((S'.at 0 rfl).cell 2).trans rfl; clear S' k' s' _f f5))
            refine wp_region_mix' [([0, 1, 2, 3, 4, 5, 6, 7, 8, 9, 10, 11, 12, 13, 14, 15, 16, 17, 18, 19, 20, 21, 22, 23, 24, 25], 26), ([27, 28, 29, 30, 31, 32, 33, 34, 35, 36, 37], 38)] [39, 40, 41, 42, 43, 44, 45, 46, 47, 48, 49, 50, 51, 52, 53, 54, 55, 56, 57] (by kernel_rfl) (by kernel_rfl) (fun _ _ d _ _ h => by cases d <;> exact h) ?_
            intro wd hbd
            have HBD := Lib.hid (bel_then HBW.out hbd)
            have hxd := HXE.out.bel hbd
            have had := (HAR.out.bel HBe.out).bel hbd
            have x0 := fun (x : Later (Below wd.heap.size wd)) => hxd.laterCellB 0 (v := .int .i64 pl) rfl x
            have x1 := fun (x : Later (Below wd.heap.size wd)) => hxd.laterCellB 1 (v := .int .i64 md) rfl x
            have x2 := fun (x : Later (Below wd.heap.size wd)) => hxd.laterCellB 2 (v := .int .i64 en) rfl x
            have z2 := fun (x : Later (Below wd.heap.size wd)) => had.laterCellB 2 (v := .slice a2 l2.length c2) rfl x
            have zf := fun (x : Later (Below wd.heap.size wd)) => later_cell (p := ⟨g3, 0, none⟩) (Nat.lt_of_lt_of_le HG3.out HBD.out.size) ((HBD.out.cell HG3.out).trans HF3.out) x
            have HC5 : Hid (wd.cell? ⟨w.heap.size, 5, none⟩ = some (.slice a5 l5.length c5)) := Lib.hid ((had.cell 5).trans rfl)
            clear hbd hxd had y2
            refine mix_step ?_
            simp only [pickOps, nth, Act.put, List.setIfInBounds_toArray, List.set_cons_succ, List.set_cons_zero]
            (repeat (go_big_quiet_step (fail)))
            refine wpQuiet_nil ?_
            go_wp2
            refine ⟨Below.refl _ _, mix_step ?_⟩
            simp only [pickOps, nth, Act.put, List.setIfInBounds_toArray, List.set_cons_succ, List.set_cons_zero]
            (repeat (go_big_quiet_step (fail)))
            refine wpQuiet_nil ?_
            go_wp2
            refine ⟨Below.refl _ _, mix_end ?_⟩
            simp only [pickOps, nth, Act.put, List.setIfInBounds_toArray, List.set_cons_succ, List.set_cons_zero]
            (repeat (go_big_quiet_step (fail)))
            refine wpQuiet_nil ?_
            clear x0 x1 x2 z2 zf
            go_wp2
            go_ret
            exact ⟨ret_bool HV.out, bel_then HW3.out HBD.out⟩
          have hq3 : decide ((l2.length : Int) < md) = false := decide_eq_false q3
          have Q3 := Lib.hid q3
          clear q3
          cases hi : inN l5.length pl with
          | false =>
            have HI1 := Lib.hid hi
            have HV : Hid (false = mayObj X) := Lib.hid (by rw [HX.out]; exact (may_fixups (o := ⟨nm, ky, l2, vs, l4, l5, l6, l7⟩) (HFT.out.bad HE.out (fix_no (by unfold inN at hi; simp only [decide_eq_false_iff_not] at hi; dsimp only; omega)))).symm)
            clear hi
            go_wp2_with (first | (have _f := f3; refine wpList_load_mid rfl 105 (.tmp 79) rfl b7 (o7 + k * 3) rfl [.int .i64 pl, .int .i64 md, .int .i64 en] _ HCO.out Try.underlying105 rfl (by kernel_rfl) ?_; clear _f f3) | (have _f := f4; refine alloc_sep rfl 105 rfl (HSN.out _) (z := .agg #[.int .i64 0, .int .i64 0, .int .i64 0]) (cs := #[.int .i64 0, .int .i64 0, .int .i64 0]) (by kernel_rfl) rfl ?_; intro wc S' b' s'; have HSc := Lib.hid S'; have HBc := Lib.hid b'; clear S' b' s' _f f4) | (have _f := f5; refine store_sep (cells := #[.int .i64 pl, .int .i64 md, .int .i64 en]) rfl 105 (.tmp 5) (.tmp 80) rfl HSc.out 0 rfl rfl rfl (by kernel_rfl) rfl rfl ?_; intro we S' k' s'; have HBe : Hid (Below wr.heap.size wr we) := Lib.hid (((Ke.below (· = wr.heap.size) HBc.out).trans k').toBelow (fun i hi e => absurd e (Nat.ne_of_lt hi))); have HBW := Lib.hid (bel_then HBR.out HBe.out); have HXE := Lib.hid (S'.at 0 rfl); have y2 : we.cell? ⟨wr.heap.size, 2, none⟩ = some (.int .i64 en) := ((S'.at 0 rfl).cell 2).trans rfl; clear S' k' s' _f f5))
            refine wp_region_mix' [([0, 1, 2, 3, 4, 5, 6, 7, 8, 9, 10, 11, 12, 13, 14, 15, 16, 17, 18, 19, 20, 21, 22, 23, 24, 25], 26), ([27, 28, 29, 30, 31, 32, 33, 34, 35, 36, 37], 38)] [39, 40, 41, 42, 43, 44, 45, 46, 47, 48, 49, 50, 51, 52, 53, 54, 55, 56, 57] (by kernel_rfl) (by kernel_rfl) (fun _ _ d _ _ h => by cases d <;> exact h) ?_
            intro wd hbd
            have HBD := Lib.hid (bel_then HBW.out hbd)
            have hxd := HXE.out.bel hbd
            have had := (HAR.out.bel HBe.out).bel hbd
            have x0 := fun (x : Later (Below wd.heap.size wd)) => hxd.laterCellB 0 (v := .int .i64 pl) rfl x
            have x1 := fun (x : Later (Below wd.heap.size wd)) => hxd.laterCellB 1 (v := .int .i64 md) rfl x
            have x2 := fun (x : Later (Below wd.heap.size wd)) => hxd.laterCellB 2 (v := .int .i64 en) rfl x
            have z2 := fun (x : Later (Below wd.heap.size wd)) => had.laterCellB 2 (v := .slice a2 l2.length c2) rfl x
            have zf := fun (x : Later (Below wd.heap.size wd)) => later_cell (p := ⟨g3, 0, none⟩) (Nat.lt_of_lt_of_le HG3.out HBD.out.size) ((HBD.out.cell HG3.out).trans HF3.out) x
            have HC5 : Hid (wd.cell? ⟨w.heap.size, 5, none⟩ = some (.slice a5 l5.length c5)) := Lib.hid ((had.cell 5).trans rfl)
            clear hbd hxd had y2
            refine mix_step ?_
            simp only [pickOps, nth, Act.put, List.setIfInBounds_toArray, List.set_cons_succ, List.set_cons_zero]
            (repeat (go_big_quiet_step (fail)))
            refine wpQuiet_nil ?_
            go_wp2_with (refine (in_walk pl w.heap.size l5.length a5 c5 _ HC5.out).mono ?_; rw [HI1.out]; rintro e w' ⟨rfl, rfl⟩)
            refine ⟨Below.refl _ _, mix_step ?_⟩
            simp only [pickOps, nth, Act.put, List.setIfInBounds_toArray, List.set_cons_succ, List.set_cons_zero]
            (repeat (go_big_quiet_step (fail)))
            refine wpQuiet_nil ?_
            go_wp2
            refine ⟨Below.refl _ _, mix_end ?_⟩
            simp only [pickOps, nth, Act.put, List.setIfInBounds_toArray, List.set_cons_succ, List.set_cons_zero]
            (repeat (go_big_quiet_step (fail)))
            refine wpQuiet_nil ?_
            clear x0 x1 x2 z2 zf
            go_wp2
            go_ret
            exact ⟨ret_bool HV.out, bel_then HW3.out HBD.out⟩
          | true =>
            have HI1 := Lib.hid hi
            have HP : Hid (0 ≤ pl ∧ pl < l5.length) := Lib.hid (by unfold inN at hi; exact of_decide_eq_true hi)
            have p0 : 0 ≤ pl := HP.out.1
            have p1 : pl ≤ 16384 := by have := HP.out.2; omega
            clear hi
            have he0 : (en == 0) = false := by rw [beq_eq_false_iff_ne]; omega
            by_cases hk0 : k = 0
            · have HOK : Hid (fixOk l5.length l2.length (prevF l7 k) ⟨pl, md, en⟩ = true) := Lib.hid (fix_yes ⟨by dsimp only; have := Q0.out; have := Q1.out; have := Q2.out; have := Q3.out; have := HP.out; omega, by dsimp only; have := Q0.out; have := Q1.out; have := Q2.out; have := Q3.out; have := HP.out; omega, by dsimp only; have := Q0.out; have := Q1.out; have := Q2.out; have := Q3.out; have := HP.out; omega, by dsimp only; have := Q0.out; have := Q1.out; have := Q2.out; have := Q3.out; have := HP.out; omega, by dsimp only; have := Q0.out; have := Q1.out; have := Q2.out; have := Q3.out; have := HP.out; omega, by dsimp only; have := Q0.out; have := Q1.out; have := Q2.out; have := Q3.out; have := HP.out; omega, by dsimp only; have := Q0.out; have := Q1.out; have := Q2.out; have := Q3.out; have := HP.out; omega, by dsimp only; have := Q0.out; have := Q1.out; have := Q2.out; have := Q3.out; have := HP.out; omega, by rw [hk0]; exact before_zero⟩)
              have t1 : decide (0 < k) = false := decide_eq_false (by omega)
              have t2 : decide ((0 : Int) < k) = false := decide_eq_false (by omega)
              clear hk0
              go_wp2_with (first | (have _f := f3; refine wpList_load_mid rfl 105 (.tmp 79) rfl b7 (o7 + k * 3) rfl [.int .i64 pl, .int .i64 md, .int .i64 en] _ HCO.out Try.underlying105 rfl (by kernel_rfl) ?_; clear _f f3) | (have _f := f4; refine alloc_sep rfl 105 rfl (HSN.out _) (z := .agg #[.int .i64 0, .int .i64 0, .int .i64 0]) (cs := #[.int .i64 0, .int .i64 0, .int .i64 0]) (by kernel_rfl) rfl ?_; intro wc S' b' s'; have HSc := Lib.hid S'; have HBc := Lib.hid b'; clear S' b' s' _f f4) | (have _f := f5; refine store_sep (cells := #[.int .i64 pl, .int .i64 md, .int .i64 en]) rfl 105 (.tmp 5) (.tmp 80) rfl HSc.out 0 rfl rfl rfl (by kernel_rfl) rfl rfl ?_; intro we S' k' s'; have HBe : Hid (Below wr.heap.size wr we) := Lib.hid (((Ke.below (· = wr.heap.size) HBc.out).trans k').toBelow (fun i hi e => absurd e (Nat.ne_of_lt hi))); have HBW := Lib.hid (bel_then HBR.out HBe.out); have HXE := Lib.hid (S'.at 0 rfl); have y2 : we.cell? ⟨wr.heap.size, 2, none⟩ = some (.int .i64 en) := ((S'.at 0 rfl).cell 2).trans rfl; clear S' k' s' _f f5))
              refine wp_region_mix' [([0, 1, 2, 3, 4, 5, 6, 7, 8, 9, 10, 11, 12, 13, 14, 15, 16, 17, 18, 19, 20, 21, 22, 23, 24, 25], 26), ([27, 28, 29, 30, 31, 32, 33, 34, 35, 36, 37], 38)] [39, 40, 41, 42, 43, 44, 45, 46, 47, 48, 49, 50, 51, 52, 53, 54, 55, 56, 57] (by kernel_rfl) (by kernel_rfl) (fun _ _ d _ _ h => by cases d <;> exact h) ?_
              intro wd hbd
              have HBD := Lib.hid (bel_then HBW.out hbd)
              have hxd := HXE.out.bel hbd
              have had := (HAR.out.bel HBe.out).bel hbd
              have x0 := fun (x : Later (Below wd.heap.size wd)) => hxd.laterCellB 0 (v := .int .i64 pl) rfl x
              have x1 := fun (x : Later (Below wd.heap.size wd)) => hxd.laterCellB 1 (v := .int .i64 md) rfl x
              have x2 := fun (x : Later (Below wd.heap.size wd)) => hxd.laterCellB 2 (v := .int .i64 en) rfl x
              have z2 := fun (x : Later (Below wd.heap.size wd)) => had.laterCellB 2 (v := .slice a2 l2.length c2) rfl x
              have zf := fun (x : Later (Below wd.heap.size wd)) => later_cell (p := ⟨g3, 0, none⟩) (Nat.lt_of_lt_of_le HG3.out HBD.out.size) ((HBD.out.cell HG3.out).trans HF3.out) x
              have HC5 : Hid (wd.cell? ⟨w.heap.size, 5, none⟩ = some (.slice a5 l5.length c5)) := Lib.hid ((had.cell 5).trans rfl)
              clear hbd hxd had y2
              refine mix_step ?_
              simp only [pickOps, nth, Act.put, List.setIfInBounds_toArray, List.set_cons_succ, List.set_cons_zero]
              (repeat (go_big_quiet_step (fail)))
              refine wpQuiet_nil ?_
              go_wp2_with (refine (in_walk pl w.heap.size l5.length a5 c5 _ HC5.out).mono ?_; rw [HI1.out]; rintro e w' ⟨rfl, rfl⟩)
              refine ⟨Below.refl _ _, mix_step ?_⟩
              simp only [pickOps, nth, Act.put, List.setIfInBounds_toArray, List.set_cons_succ, List.set_cons_zero]
              (repeat (go_big_quiet_step (fail)))
              refine wpQuiet_nil ?_
              go_wp2
              refine ⟨Below.refl _ _, mix_end ?_⟩
              simp only [pickOps, nth, Act.put, List.setIfInBounds_toArray, List.set_cons_succ, List.set_cons_zero]
              (repeat (go_big_quiet_step (fail)))
              refine wpQuiet_nil ?_
              clear x0 x1 x2 z2 zf
              go_wp2
              go_roundw
              case rel => exact ⟨k + 1, by go_num, HLT.out, HFT.out.next HE.out HOK.out, HBD.out⟩
              case measure => simp [intOf]; have := HLT.out; omega
            obtain ⟨⟨pp, pm, pe⟩, hpp⟩ := get_lt (l := l7) (i := k - 1) (by omega)
            have HPP := Lib.hid hpp
            have k0 : 0 < k := by omega
            have k1 : k - 1 < l7.length := by omega
            have k0' : (0 : Int) < k := by omega
            have t1 : decide (0 < k) = true := decide_eq_true k0
            have t2 : decide ((0 : Int) < k) = true := decide_eq_true k0'
            clear hpp hk0
            by_cases hle : pl ≤ pp
            · have HV : Hid (false = mayObj X) := Lib.hid (by rw [HX.out]; exact (may_fixups (o := ⟨nm, ky, l2, vs, l4, l5, l6, l7⟩) (HFT.out.bad HE.out (fix_no (by rw [before_succ k0 HPP.out]; simp only [decide_eq_true_eq]; omega)))).symm)
              have hle' : decide (pl ≤ pp) = true := decide_eq_true hle
              clear hle
              go_wp2_with (first | (have _f := f3; refine wpList_load_mid rfl 105 (.tmp 79) rfl b7 (o7 + k * 3) rfl [.int .i64 pl, .int .i64 md, .int .i64 en] _ HCO.out Try.underlying105 rfl (by kernel_rfl) ?_; clear _f f3) | (have _f := f4; refine alloc_sep rfl 105 rfl (HSN.out _) (z := .agg #[.int .i64 0, .int .i64 0, .int .i64 0]) (cs := #[.int .i64 0, .int .i64 0, .int .i64 0]) (by kernel_rfl) rfl ?_; intro wc S' b' s'; have HSc := Lib.hid S'; have HBc := Lib.hid b'; clear S' b' s' _f f4) | (have _f := f5; refine store_sep (cells := #[.int .i64 pl, .int .i64 md, .int .i64 en]) rfl 105 (.tmp 5) (.tmp 80) rfl HSc.out 0 rfl rfl rfl (by kernel_rfl) rfl rfl ?_; intro we S' k' s'; have HBe : Hid (Below wr.heap.size wr we) := Lib.hid (((Ke.below (· = wr.heap.size) HBc.out).trans k').toBelow (fun i hi e => absurd e (Nat.ne_of_lt hi))); have HBW := Lib.hid (bel_then HBR.out HBe.out); have HXE := Lib.hid (S'.at 0 rfl); have y2 : we.cell? ⟨wr.heap.size, 2, none⟩ = some (.int .i64 en) := ((S'.at 0 rfl).cell 2).trans rfl; clear S' k' s' _f f5))
              have s4 : IntKind.i64.wrap ((k : Int) - 1) = ((k - 1 : Nat) : Int) := by rw [IntWalk.i64_in _ (by omega)]; omega
              refine wp_region_mix' [([0, 1, 2, 3, 4, 5, 6, 7, 8, 9, 10, 11, 12, 13, 14, 15, 16, 17, 18, 19, 20, 21, 22, 23, 24, 25], 26), ([27, 28, 29, 30, 31, 32, 33, 34, 35, 36, 37], 38)] [39, 40, 41, 42, 43, 44, 45, 46, 47, 48, 49, 50, 51, 52, 53, 54, 55, 56, 57] (by kernel_rfl) (by kernel_rfl) (fun _ _ d _ _ h => by cases d <;> exact h) ?_
              intro wd hbd
              have HBD := Lib.hid (bel_then HBW.out hbd)
              have hxd := HXE.out.bel hbd
              have had := (HAR.out.bel HBe.out).bel hbd
              have x0 := fun (x : Later (Below wd.heap.size wd)) => hxd.laterCellB 0 (v := .int .i64 pl) rfl x
              have x1 := fun (x : Later (Below wd.heap.size wd)) => hxd.laterCellB 1 (v := .int .i64 md) rfl x
              have x2 := fun (x : Later (Below wd.heap.size wd)) => hxd.laterCellB 2 (v := .int .i64 en) rfl x
              have z2 := fun (x : Later (Below wd.heap.size wd)) => had.laterCellB 2 (v := .slice a2 l2.length c2) rfl x
              have zf := fun (x : Later (Below wd.heap.size wd)) => later_cell (p := ⟨g3, 0, none⟩) (Nat.lt_of_lt_of_le HG3.out HBD.out.size) ((HBD.out.cell HG3.out).trans HF3.out) x
              have z7 := fun (x : Later (Below wd.heap.size wd)) => had.laterCellB 7 (v := .slice (some ⟨b7, o7, none⟩) l7.length c7) rfl x
              have zp := fun (x : Later (Below wd.heap.size wd)) => later_cell (p := ⟨b7, o7 + (k - 1) * 3, none⟩) (Nat.lt_of_lt_of_le HBN.out (bel_then HW3.out HBD.out).size) (((bel_then HW3.out HBD.out).cell HBN.out).trans (HCELL7.out (k - 1) _ HPP.out 0 _ rfl)) x
              have HC5 : Hid (wd.cell? ⟨w.heap.size, 5, none⟩ = some (.slice a5 l5.length c5)) := Lib.hid ((had.cell 5).trans rfl)
              clear hbd hxd had y2
              refine mix_step ?_
              simp only [pickOps, nth, Act.put, List.setIfInBounds_toArray, List.set_cons_succ, List.set_cons_zero]
              (repeat (go_big_quiet_step (fail)))
              refine wpQuiet_nil ?_
              go_wp2_with (refine (in_walk pl w.heap.size l5.length a5 c5 _ HC5.out).mono ?_; rw [HI1.out]; rintro e w' ⟨rfl, rfl⟩)
              refine ⟨Below.refl _ _, mix_step ?_⟩
              simp only [pickOps, nth, Act.put, List.setIfInBounds_toArray, List.set_cons_succ, List.set_cons_zero]
              (repeat (go_big_quiet_step (fail)))
              refine wpQuiet_nil ?_
              go_wp2
              refine ⟨Below.refl _ _, mix_end ?_⟩
              simp only [pickOps, nth, Act.put, List.setIfInBounds_toArray, List.set_cons_succ, List.set_cons_zero]
              (repeat (go_big_quiet_step (fail)))
              refine wpQuiet_nil ?_
              clear x0 x1 x2 z2 zf z7 zp s4
              go_wp2
              go_ret
              exact ⟨ret_bool HV.out, bel_then HW3.out HBD.out⟩
            have HOK : Hid (fixOk l5.length l2.length (prevF l7 k) ⟨pl, md, en⟩ = true) := Lib.hid (fix_yes ⟨by dsimp only; have := Q0.out; have := Q1.out; have := Q2.out; have := Q3.out; have := HP.out; omega, by dsimp only; have := Q0.out; have := Q1.out; have := Q2.out; have := Q3.out; have := HP.out; omega, by dsimp only; have := Q0.out; have := Q1.out; have := Q2.out; have := Q3.out; have := HP.out; omega, by dsimp only; have := Q0.out; have := Q1.out; have := Q2.out; have := Q3.out; have := HP.out; omega, by dsimp only; have := Q0.out; have := Q1.out; have := Q2.out; have := Q3.out; have := HP.out; omega, by dsimp only; have := Q0.out; have := Q1.out; have := Q2.out; have := Q3.out; have := HP.out; omega, by dsimp only; have := Q0.out; have := Q1.out; have := Q2.out; have := Q3.out; have := HP.out; omega, by dsimp only; have := Q0.out; have := Q1.out; have := Q2.out; have := Q3.out; have := HP.out; omega, by rw [before_succ k0 HPP.out]; exact decide_eq_true (by dsimp only; omega)⟩)
            have hle' : decide (pl ≤ pp) = false := decide_eq_false hle
            clear hle
            go_wp2_with (first | (have _f := f3; refine wpList_load_mid rfl 105 (.tmp 79) rfl b7 (o7 + k * 3) rfl [.int .i64 pl, .int .i64 md, .int .i64 en] _ HCO.out Try.underlying105 rfl (by kernel_rfl) ?_; clear _f f3) | (have _f := f4; refine alloc_sep rfl 105 rfl (HSN.out _) (z := .agg #[.int .i64 0, .int .i64 0, .int .i64 0]) (cs := #[.int .i64 0, .int .i64 0, .int .i64 0]) (by kernel_rfl) rfl ?_; intro wc S' b' s'; have HSc := Lib.hid S'; have HBc := Lib.hid b'; clear S' b' s' _f f4) | (have _f := f5; refine store_sep (cells := #[.int .i64 pl, .int .i64 md, .int .i64 en]) rfl 105 (.tmp 5) (.tmp 80) rfl HSc.out 0 rfl rfl rfl (by kernel_rfl) rfl rfl ?_; intro we S' k' s'; have HBe : Hid (Below wr.heap.size wr we) := Lib.hid (((Ke.below (· = wr.heap.size) HBc.out).trans k').toBelow (fun i hi e => absurd e (Nat.ne_of_lt hi))); have HBW := Lib.hid (bel_then HBR.out HBe.out); have HXE := Lib.hid (S'.at 0 rfl); have y2 : we.cell? ⟨wr.heap.size, 2, none⟩ = some (.int .i64 en) := ((S'.at 0 rfl).cell 2).trans rfl; clear S' k' s' _f f5))
            have s4 : IntKind.i64.wrap ((k : Int) - 1) = ((k - 1 : Nat) : Int) := by rw [IntWalk.i64_in _ (by omega)]; omega
            refine wp_region_mix' [([0, 1, 2, 3, 4, 5, 6, 7, 8, 9, 10, 11, 12, 13, 14, 15, 16, 17, 18, 19, 20, 21, 22, 23, 24, 25], 26), ([27, 28, 29, 30, 31, 32, 33, 34, 35, 36, 37], 38)] [39, 40, 41, 42, 43, 44, 45, 46, 47, 48, 49, 50, 51, 52, 53, 54, 55, 56, 57] (by kernel_rfl) (by kernel_rfl) (fun _ _ d _ _ h => by cases d <;> exact h) ?_
            intro wd hbd
            have HBD := Lib.hid (bel_then HBW.out hbd)
            have hxd := HXE.out.bel hbd
            have had := (HAR.out.bel HBe.out).bel hbd
            have x0 := fun (x : Later (Below wd.heap.size wd)) => hxd.laterCellB 0 (v := .int .i64 pl) rfl x
            have x1 := fun (x : Later (Below wd.heap.size wd)) => hxd.laterCellB 1 (v := .int .i64 md) rfl x
            have x2 := fun (x : Later (Below wd.heap.size wd)) => hxd.laterCellB 2 (v := .int .i64 en) rfl x
            have z2 := fun (x : Later (Below wd.heap.size wd)) => had.laterCellB 2 (v := .slice a2 l2.length c2) rfl x
            have zf := fun (x : Later (Below wd.heap.size wd)) => later_cell (p := ⟨g3, 0, none⟩) (Nat.lt_of_lt_of_le HG3.out HBD.out.size) ((HBD.out.cell HG3.out).trans HF3.out) x
            have z7 := fun (x : Later (Below wd.heap.size wd)) => had.laterCellB 7 (v := .slice (some ⟨b7, o7, none⟩) l7.length c7) rfl x
            have zp := fun (x : Later (Below wd.heap.size wd)) => later_cell (p := ⟨b7, o7 + (k - 1) * 3, none⟩) (Nat.lt_of_lt_of_le HBN.out (bel_then HW3.out HBD.out).size) (((bel_then HW3.out HBD.out).cell HBN.out).trans (HCELL7.out (k - 1) _ HPP.out 0 _ rfl)) x
            have HC5 : Hid (wd.cell? ⟨w.heap.size, 5, none⟩ = some (.slice a5 l5.length c5)) := Lib.hid ((had.cell 5).trans rfl)
            clear hbd hxd had y2
            refine mix_step ?_
            simp only [pickOps, nth, Act.put, List.setIfInBounds_toArray, List.set_cons_succ, List.set_cons_zero]
            (repeat (go_big_quiet_step (fail)))
            refine wpQuiet_nil ?_
            go_wp2_with (refine (in_walk pl w.heap.size l5.length a5 c5 _ HC5.out).mono ?_; rw [HI1.out]; rintro e w' ⟨rfl, rfl⟩)
            refine ⟨Below.refl _ _, mix_step ?_⟩
            simp only [pickOps, nth, Act.put, List.setIfInBounds_toArray, List.set_cons_succ, List.set_cons_zero]
            (repeat (go_big_quiet_step (fail)))
            refine wpQuiet_nil ?_
            go_wp2
            refine ⟨Below.refl _ _, mix_end ?_⟩
            simp only [pickOps, nth, Act.put, List.setIfInBounds_toArray, List.set_cons_succ, List.set_cons_zero]
            (repeat (go_big_quiet_step (fail)))
            refine wpQuiet_nil ?_
            clear x0 x1 x2 z2 zf z7 zp s4
            go_wp2
            go_roundw
            case rel => exact ⟨k + 1, by go_num, HLT.out, HFT.out.next HE.out HOK.out, HBD.out⟩
            case measure => simp [intOf]; have := HLT.out; omega
        by_cases q2 : md < en
        · have HV : Hid (false = mayObj X) := Lib.hid (by rw [HX.out]; exact (may_fixups (o := ⟨nm, ky, l2, vs, l4, l5, l6, l7⟩) (HFT.out.bad HE.out (fix_no (by dsimp only; have := Q0.out; omega)))).symm)
          have hq2 : decide (md < en) = true := decide_eq_true q2
          have hq2' := q2
          go_wp2_with (first | (have _f := f3; refine wpList_load_mid rfl 105 (.tmp 79) rfl b7 (o7 + k * 3) rfl [.int .i64 pl, .int .i64 md, .int .i64 en] _ HCO.out Try.underlying105 rfl (by kernel_rfl) ?_; clear _f f3) | (have _f := f4; refine alloc_sep rfl 105 rfl (HSN.out _) (z := .agg #[.int .i64 0, .int .i64 0, .int .i64 0]) (cs := #[.int .i64 0, .int .i64 0, .int .i64 0]) (by kernel_rfl) rfl ?_; intro wc S' b' s'; have HSc := Lib.hid S'; have HBc := Lib.hid b'; clear S' b' s' _f f4) | (have _f := f5; refine store_sep (cells := #[.int .i64 pl, .int .i64 md, .int .i64 en]) rfl 105 (.tmp 5) (.tmp 80) rfl HSc.out 0 rfl rfl rfl (by kernel_rfl) rfl rfl ?_; intro we S' k' s'; have HBe : Hid (Below wr.heap.size wr we) := Lib.hid (((Ke.below (· = wr.heap.size) HBc.out).trans k').toBelow (fun i hi e => absurd e (Nat.ne_of_lt hi))); have HBW := Lib.hid (bel_then HBR.out HBe.out); have HXE := Lib.hid (S'.at 0 rfl); have y2 : we.cell? ⟨wr.heap.size, 2, none⟩ = some (.int .i64 en) := ((S'.at 0 rfl).cell 2).trans rfl; clear S' k' s' _f f5))
          refine wp_region_mix' [([0, 1, 2, 3, 4, 5, 6, 7, 8, 9, 10, 11, 12, 13, 14, 15, 16, 17, 18, 19, 20, 21, 22, 23, 24, 25], 26), ([27, 28, 29, 30, 31, 32, 33, 34, 35, 36, 37], 38)] [39, 40, 41, 42, 43, 44, 45, 46, 47, 48, 49, 50, 51, 52, 53, 54, 55, 56, 57] (by kernel_rfl) (by kernel_rfl) (fun _ _ d _ _ h => by cases d <;> exact h) ?_
          intro wd hbd
          have HBD := Lib.hid (bel_then HBW.out hbd)
          have hxd := HXE.out.bel hbd
          have had := (HAR.out.bel HBe.out).bel hbd
          have x0 := fun (x : Later (Below wd.heap.size wd)) => hxd.laterCellB 0 (v := .int .i64 pl) rfl x
          have x1 := fun (x : Later (Below wd.heap.size wd)) => hxd.laterCellB 1 (v := .int .i64 md) rfl x
          have x2 := fun (x : Later (Below wd.heap.size wd)) => hxd.laterCellB 2 (v := .int .i64 en) rfl x
          have z2 := fun (x : Later (Below wd.heap.size wd)) => had.laterCellB 2 (v := .slice a2 l2.length c2) rfl x
          have zf := fun (x : Later (Below wd.heap.size wd)) => later_cell (p := ⟨g3, 0, none⟩) (Nat.lt_of_lt_of_le HG3.out HBD.out.size) ((HBD.out.cell HG3.out).trans HF3.out) x
          have HC5 : Hid (wd.cell? ⟨w.heap.size, 5, none⟩ = some (.slice a5 l5.length c5)) := Lib.hid ((had.cell 5).trans rfl)
          clear hbd hxd had y2
          refine mix_step ?_
          simp only [pickOps, nth, Act.put, List.setIfInBounds_toArray, List.set_cons_succ, List.set_cons_zero]
          (repeat (go_big_quiet_step (fail)))
          refine wpQuiet_nil ?_
          go_wp2
          refine ⟨Below.refl _ _, mix_step ?_⟩
          simp only [pickOps, nth, Act.put, List.setIfInBounds_toArray, List.set_cons_succ, List.set_cons_zero]
          (repeat (go_big_quiet_step (fail)))
          refine wpQuiet_nil ?_
          go_wp2
          refine ⟨Below.refl _ _, mix_end ?_⟩
          simp only [pickOps, nth, Act.put, List.setIfInBounds_toArray, List.set_cons_succ, List.set_cons_zero]
          (repeat (go_big_quiet_step (fail)))
          refine wpQuiet_nil ?_
          clear x0 x1 x2 z2 zf
          go_wp2
          go_ret
          exact ⟨ret_bool HV.out, bel_then HW3.out HBD.out⟩
        have hq2 : decide (md < en) = false := decide_eq_false q2
        have Q2 := Lib.hid q2
        clear q2
        by_cases q3 : (l2.length : Int) < md
        · have HV : Hid (false = mayObj X) := Lib.hid (by rw [HX.out]; exact (may_fixups (o := ⟨nm, ky, l2, vs, l4, l5, l6, l7⟩) (HFT.out.bad HE.out (fix_no (by dsimp only; omega)))).symm)
          have hq3 : decide ((l2.length : Int) < md) = true := decide_eq_true q3
          clear q3
          go_wp2_with (first | (have _f := f3; refine wpList_load_mid rfl 105 (.tmp 79) rfl b7 (o7 + k * 3) rfl [.int .i64 pl, .int .i64 md, .int .i64 en] _ HCO.out Try.underlying105 rfl (by kernel_rfl) ?_; clear _f f3) | (have _f := f4; refine alloc_sep rfl 105 rfl (HSN.out _) (z := .agg #[.int .i64 0, .int .i64 0, .int .i64 0]) (cs := #[.int .i64 0, .int .i64 0, .int .i64 0]) (by kernel_rfl) rfl ?_; intro wc S' b' s'; have HSc := Lib.hid S'; have HBc := Lib.hid b'; clear S' b' s' _f f4) | (have _f := f5; refine store_sep (cells := #[.int .i64 pl, .int .i64 md, .int .i64 en]) rfl 105 (.tmp 5) (.tmp 80) rfl HSc.out 0 rfl rfl rfl (by kernel_rfl) rfl rfl ?_; intro we S' k' s'; have HBe : Hid (Below wr.heap.size wr we) := Lib.hid (((Ke.below (· = wr.heap.size) HBc.out).trans k').toBelow (fun i hi e => absurd e (Nat.ne_of_lt hi))); have HBW := Lib.hid (bel_then HBR.out HBe.out); have HXE := Lib.hid (S'.at 0 rfl); have y2 : we.cell? ⟨wr.heap.size, 2, none⟩ = some (.int .i64 en) := ((S'.at 0 rfl).cell 2).trans rfl; clear S' k' s' _f f5))
          refine wp_region_mix' [([0, 1, 2, 3, 4, 5, 6, 7, 8, 9, 10, 11, 12, 13, 14, 15, 16, 17, 18, 19, 20, 21, 22, 23, 24, 25], 26), ([27, 28, 29, 30, 31, 32, 33, 34, 35, 36, 37], 38)] [39, 40, 41, 42, 43, 44, 45, 46, 47, 48, 49, 50, 51, 52, 53, 54, 55, 56, 57] (by kernel_rfl) (by kernel_rfl) (fun _ _ d _ _ h => by cases d <;> exact h) ?_
          intro wd hbd
          have HBD := Lib.hid (bel_then HBW.out hbd)
          have hxd := HXE.out.bel hbd
          have had := (HAR.out.bel HBe.out).bel hbd
          have x0 := fun (x : Later (Below wd.heap.size wd)) => hxd.laterCellB 0 (v := .int .i64 pl) rfl x
          have x1 := fun (x : Later (Below wd.heap.size wd)) => hxd.laterCellB 1 (v := .int .i64 md) rfl x
          have x2 := fun (x : Later (Below wd.heap.size wd)) => hxd.laterCellB 2 (v := .int .i64 en) rfl x
          have z2 := fun (x : Later (Below wd.heap.size wd)) => had.laterCellB 2 (v := .slice a2 l2.length c2) rfl x
          have zf := fun (x : Later (Below wd.heap.size wd)) => later_cell (p := ⟨g3, 0, none⟩) (Nat.lt_of_lt_of_le HG3.out HBD.out.size) ((HBD.out.cell HG3.out).trans HF3.out) x
          have HC5 : Hid (wd.cell? ⟨w.heap.size, 5, none⟩ = some (.slice a5 l5.length c5)) := Lib.hid ((had.cell 5).trans rfl)
          clear hbd hxd had y2
          refine mix_step ?_
          simp only [pickOps, nth, Act.put, List.setIfInBounds_toArray, List.set_cons_succ, List.set_cons_zero]
          (repeat (go_big_quiet_step (fail)))
          refine wpQuiet_nil ?_
          go_wp2
          refine ⟨Below.refl _ _, mix_step ?_⟩
          simp only [pickOps, nth, Act.put, List.setIfInBounds_toArray, List.set_cons_succ, List.set_cons_zero]
          (repeat (go_big_quiet_step (fail)))
          refine wpQuiet_nil ?_
          go_wp2
          refine ⟨Below.refl _ _, mix_end ?_⟩
          simp only [pickOps, nth, Act.put, List.setIfInBounds_toArray, List.set_cons_succ, List.set_cons_zero]
          (repeat (go_big_quiet_step (fail)))
          refine wpQuiet_nil ?_
          clear x0 x1 x2 z2 zf
          go_wp2
          go_ret
          exact ⟨ret_bool HV.out, bel_then HW3.out HBD.out⟩
        have hq3 : decide ((l2.length : Int) < md) = false := decide_eq_false q3
        have Q3 := Lib.hid q3
        clear q3
        cases hi : inN l5.length pl with
        | false =>
          have HI1 := Lib.hid hi
          have HV : Hid (false = mayObj X) := Lib.hid (by rw [HX.out]; exact (may_fixups (o := ⟨nm, ky, l2, vs, l4, l5, l6, l7⟩) (HFT.out.bad HE.out (fix_no (by unfold inN at hi; simp only [decide_eq_false_iff_not] at hi; dsimp only; omega)))).symm)
          clear hi
          go_wp2_with (first | (have _f := f3; refine wpList_load_mid rfl 105 (.tmp 79) rfl b7 (o7 + k * 3) rfl [.int .i64 pl, .int .i64 md, .int .i64 en] _ HCO.out Try.underlying105 rfl (by kernel_rfl) ?_; clear _f f3) | (have _f := f4; refine alloc_sep rfl 105 rfl (HSN.out _) (z := .agg #[.int .i64 0, .int .i64 0, .int .i64 0]) (cs := #[.int .i64 0, .int .i64 0, .int .i64 0]) (by kernel_rfl) rfl ?_; intro wc S' b' s'; have HSc := Lib.hid S'; have HBc := Lib.hid b'; clear S' b' s' _f f4) | (have _f := f5; refine store_sep (cells := #[.int .i64 pl, .int .i64 md, .int .i64 en]) rfl 105 (.tmp 5) (.tmp 80) rfl HSc.out 0 rfl rfl rfl (by kernel_rfl) rfl rfl ?_; intro we S' k' s'; have HBe : Hid (Below wr.heap.size wr we) := Lib.hid (((Ke.below (· = wr.heap.size) HBc.out).trans k').toBelow (fun i hi e => absurd e (Nat.ne_of_lt hi))); have HBW := Lib.hid (bel_then HBR.out HBe.out); have HXE := Lib.hid (S'.at 0 rfl); have y2 : we.cell? ⟨wr.heap.size, 2, none⟩ = some (.int .i64 en) := ((S'.at 0 rfl).cell 2).trans rfl; clear S' k' s' _f f5))
          refine wp_region_mix' [([0, 1, 2, 3, 4, 5, 6, 7, 8, 9, 10, 11, 12, 13, 14, 15, 16, 17, 18, 19, 20, 21, 22, 23, 24, 25], 26), ([27, 28, 29, 30, 31, 32, 33, 34, 35, 36, 37], 38)] [39, 40, 41, 42, 43, 44, 45, 46, 47, 48, 49, 50, 51, 52, 53, 54, 55, 56, 57] (by kernel_rfl) (by kernel_rfl) (fun _ _ d _ _ h => by cases d <;> exact h) ?_
          intro wd hbd
          have HBD := Lib.hid (bel_then HBW.out hbd)
          have hxd := HXE.out.bel hbd
          have had := (HAR.out.bel HBe.out).bel hbd
          have x0 := fun (x : Later (Below wd.heap.size wd)) => hxd.laterCellB 0 (v := .int .i64 pl) rfl x
          have x1 := fun (x : Later (Below wd.heap.size wd)) => hxd.laterCellB 1 (v := .int .i64 md) rfl x
          have x2 := fun (x : Later (Below wd.heap.size wd)) => hxd.laterCellB 2 (v := .int .i64 en) rfl x
          have z2 := fun (x : Later (Below wd.heap.size wd)) => had.laterCellB 2 (v := .slice a2 l2.length c2) rfl x
          have zf := fun (x : Later (Below wd.heap.size wd)) => later_cell (p := ⟨g3, 0, none⟩) (Nat.lt_of_lt_of_le HG3.out HBD.out.size) ((HBD.out.cell HG3.out).trans HF3.out) x
          have HC5 : Hid (wd.cell? ⟨w.heap.size, 5, none⟩ = some (.slice a5 l5.length c5)) := Lib.hid ((had.cell 5).trans rfl)
          clear hbd hxd had y2
          refine mix_step ?_
          simp only [pickOps, nth, Act.put, List.setIfInBounds_toArray, List.set_cons_succ, List.set_cons_zero]
          (repeat (go_big_quiet_step (fail)))
          refine wpQuiet_nil ?_
          go_wp2_with (refine (in_walk pl w.heap.size l5.length a5 c5 _ HC5.out).mono ?_; rw [HI1.out]; rintro e w' ⟨rfl, rfl⟩)
          refine ⟨Below.refl _ _, mix_step ?_⟩
          simp only [pickOps, nth, Act.put, List.setIfInBounds_toArray, List.set_cons_succ, List.set_cons_zero]
          (repeat (go_big_quiet_step (fail)))
          refine wpQuiet_nil ?_
          go_wp2
          refine ⟨Below.refl _ _, mix_end ?_⟩
          simp only [pickOps, nth, Act.put, List.setIfInBounds_toArray, List.set_cons_succ, List.set_cons_zero]
          (repeat (go_big_quiet_step (fail)))
          refine wpQuiet_nil ?_
          clear x0 x1 x2 z2 zf
          go_wp2
          go_ret
          exact ⟨ret_bool HV.out, bel_then HW3.out HBD.out⟩
        | true =>
          have HI1 := Lib.hid hi
          have HP : Hid (0 ≤ pl ∧ pl < l5.length) := Lib.hid (by unfold inN at hi; exact of_decide_eq_true hi)
          have p0 : 0 ≤ pl := HP.out.1
          have p1 : pl ≤ 16384 := by have := HP.out.2; omega
          clear hi
          by_cases e0 : en = 0
          · have he0 : (en == 0) = true := by simpa using e0
            have E0 := Lib.hid e0
            clear e0
            cases hi : inN l5.length (pl + 1) with
            | false =>
              have HI2 := Lib.hid hi
              have HV : Hid (false = mayObj X) := Lib.hid (by rw [HX.out]; exact (may_fixups (o := ⟨nm, ky, l2, vs, l4, l5, l6, l7⟩) (HFT.out.bad HE.out (fix_no (by have := E0.out; unfold inN at hi; simp only [decide_eq_false_iff_not] at hi; dsimp only; omega)))).symm)
              clear hi
              go_wp2_with (first | (have _f := f3; refine wpList_load_mid rfl 105 (.tmp 79) rfl b7 (o7 + k * 3) rfl [.int .i64 pl, .int .i64 md, .int .i64 en] _ HCO.out Try.underlying105 rfl (by kernel_rfl) ?_; clear _f f3) | (have _f := f4; refine alloc_sep rfl 105 rfl (HSN.out _) (z := .agg #[.int .i64 0, .int .i64 0, .int .i64 0]) (cs := #[.int .i64 0, .int .i64 0, .int .i64 0]) (by kernel_rfl) rfl ?_; intro wc S' b' s'; have HSc := Lib.hid S'; have HBc := Lib.hid b'; clear S' b' s' _f f4) | (have _f := f5; refine store_sep (cells := #[.int .i64 pl, .int .i64 md, .int .i64 en]) rfl 105 (.tmp 5) (.tmp 80) rfl HSc.out 0 rfl rfl rfl (by kernel_rfl) rfl rfl ?_; intro we S' k' s'; have HBe : Hid (Below wr.heap.size wr we) := Lib.hid (((Ke.below (· = wr.heap.size) HBc.out).trans k').toBelow (fun i hi e => absurd e (Nat.ne_of_lt hi))); have HBW := Lib.hid (bel_then HBR.out HBe.out); have HXE := Lib.hid (S'.at 0 rfl); have y2 : we.cell? ⟨wr.heap.size, 2, none⟩ = some (.int .i64 en) := ((S'.at 0 rfl).cell 2).trans rfl; clear S' k' s' _f f5))
              have s3 : IntKind.i64.wrap (pl + 1) = pl + 1 := IntWalk.i64_in _ (by omega)
              refine wp_region_mix' [([0, 1, 2, 3, 4, 5, 6, 7, 8, 9, 10, 11, 12, 13, 14, 15, 16, 17, 18, 19, 20, 21, 22, 23, 24, 25], 26), ([27, 28, 29, 30, 31, 32, 33, 34, 35, 36, 37], 38)] [39, 40, 41, 42, 43, 44, 45, 46, 47, 48, 49, 50, 51, 52, 53, 54, 55, 56, 57] (by kernel_rfl) (by kernel_rfl) (fun _ _ d _ _ h => by cases d <;> exact h) ?_
              intro wd hbd
              have HBD := Lib.hid (bel_then HBW.out hbd)
              have hxd := HXE.out.bel hbd
              have had := (HAR.out.bel HBe.out).bel hbd
              have x0 := fun (x : Later (Below wd.heap.size wd)) => hxd.laterCellB 0 (v := .int .i64 pl) rfl x
              have x1 := fun (x : Later (Below wd.heap.size wd)) => hxd.laterCellB 1 (v := .int .i64 md) rfl x
              have x2 := fun (x : Later (Below wd.heap.size wd)) => hxd.laterCellB 2 (v := .int .i64 en) rfl x
              have z2 := fun (x : Later (Below wd.heap.size wd)) => had.laterCellB 2 (v := .slice a2 l2.length c2) rfl x
              have zf := fun (x : Later (Below wd.heap.size wd)) => later_cell (p := ⟨g3, 0, none⟩) (Nat.lt_of_lt_of_le HG3.out HBD.out.size) ((HBD.out.cell HG3.out).trans HF3.out) x
              have HC5 : Hid (wd.cell? ⟨w.heap.size, 5, none⟩ = some (.slice a5 l5.length c5)) := Lib.hid ((had.cell 5).trans rfl)
              clear hbd hxd had y2
              refine mix_step ?_
              simp only [pickOps, nth, Act.put, List.setIfInBounds_toArray, List.set_cons_succ, List.set_cons_zero]
              (repeat (go_big_quiet_step (fail)))
              refine wpQuiet_nil ?_
              go_wp2_with (refine (in_walk pl w.heap.size l5.length a5 c5 _ HC5.out).mono ?_; rw [HI1.out]; rintro e w' ⟨rfl, rfl⟩)
              refine ⟨Below.refl _ _, mix_step ?_⟩
              simp only [pickOps, nth, Act.put, List.setIfInBounds_toArray, List.set_cons_succ, List.set_cons_zero]
              (repeat (go_big_quiet_step (fail)))
              refine wpQuiet_nil ?_
              go_wp2_with (refine (in_walk (pl + 1) w.heap.size l5.length a5 c5 _ HC5.out).mono ?_; rw [HI2.out]; rintro e w' ⟨rfl, rfl⟩)
              refine ⟨Below.refl _ _, mix_end ?_⟩
              simp only [pickOps, nth, Act.put, List.setIfInBounds_toArray, List.set_cons_succ, List.set_cons_zero]
              (repeat (go_big_quiet_step (fail)))
              refine wpQuiet_nil ?_
              clear x0 x1 x2 z2 zf s3
              go_wp2
              go_ret
              exact ⟨ret_bool HV.out, bel_then HW3.out HBD.out⟩
            | true =>
              have HI2 := Lib.hid hi
              have HP2 : Hid (pl + 1 < l5.length) := Lib.hid (by unfold inN at hi; exact (of_decide_eq_true hi).2)
              clear hi
              by_cases hk0 : k = 0
              · have HOK : Hid (fixOk l5.length l2.length (prevF l7 k) ⟨pl, md, en⟩ = true) := Lib.hid (fix_yes ⟨by dsimp only; have := Q0.out; have := Q1.out; have := Q2.out; have := Q3.out; have := HP.out; have := HP2.out; have := E0.out; omega, by dsimp only; have := Q0.out; have := Q1.out; have := Q2.out; have := Q3.out; have := HP.out; have := HP2.out; have := E0.out; omega, by dsimp only; have := Q0.out; have := Q1.out; have := Q2.out; have := Q3.out; have := HP.out; have := HP2.out; have := E0.out; omega, by dsimp only; have := Q0.out; have := Q1.out; have := Q2.out; have := Q3.out; have := HP.out; have := HP2.out; have := E0.out; omega, by dsimp only; have := Q0.out; have := Q1.out; have := Q2.out; have := Q3.out; have := HP.out; have := HP2.out; have := E0.out; omega, by dsimp only; have := Q0.out; have := Q1.out; have := Q2.out; have := Q3.out; have := HP.out; have := HP2.out; have := E0.out; omega, by dsimp only; have := Q0.out; have := Q1.out; have := Q2.out; have := Q3.out; have := HP.out; have := HP2.out; have := E0.out; omega, by dsimp only; have := Q0.out; have := Q1.out; have := Q2.out; have := Q3.out; have := HP.out; have := HP2.out; have := E0.out; omega, by rw [hk0]; exact before_zero⟩)
                have t1 : decide (0 < k) = false := decide_eq_false (by omega)
                have t2 : decide ((0 : Int) < k) = false := decide_eq_false (by omega)
                clear hk0
                go_wp2_with (first | (have _f := f3; refine wpList_load_mid rfl 105 (.tmp 79) rfl b7 (o7 + k * 3) rfl [.int .i64 pl, .int .i64 md, .int .i64 en] _ HCO.out Try.underlying105 rfl (by kernel_rfl) ?_; clear _f f3) | (have _f := f4; refine alloc_sep rfl 105 rfl (HSN.out _) (z := .agg #[.int .i64 0, .int .i64 0, .int .i64 0]) (cs := #[.int .i64 0, .int .i64 0, .int .i64 0]) (by kernel_rfl) rfl ?_; intro wc S' b' s'; have HSc := Lib.hid S'; have HBc := Lib.hid b'; clear S' b' s' _f f4) | (have _f := f5; refine store_sep (cells := #[.int .i64 pl, .int .i64 md, .int .i64 en]) rfl 105 (.tmp 5) (.tmp 80) rfl HSc.out 0 rfl rfl rfl (by kernel_rfl) rfl rfl ?_; intro we S' k' s'; have HBe : Hid (Below wr.heap.size wr we) := Lib.hid (((Ke.below (· = wr.heap.size) HBc.out).trans k').toBelow (fun i hi e => absurd e (Nat.ne_of_lt hi))); have HBW := Lib.hid (bel_then HBR.out HBe.out); have HXE := Lib.hid (S'.at 0 rfl); have y2 : we.cell? ⟨wr.heap.size, 2, none⟩ = some (.int .i64 en) := ((S'.at 0 rfl).cell 2).trans rfl; clear S' k' s' _f f5))
                have s3 : IntKind.i64.wrap (pl + 1) = pl + 1 := IntWalk.i64_in _ (by omega)
                refine wp_region_mix' [([0, 1, 2, 3, 4, 5, 6, 7, 8, 9, 10, 11, 12, 13, 14, 15, 16, 17, 18, 19, 20, 21, 22, 23, 24, 25], 26), ([27, 28, 29, 30, 31, 32, 33, 34, 35, 36, 37], 38)] [39, 40, 41, 42, 43, 44, 45, 46, 47, 48, 49, 50, 51, 52, 53, 54, 55, 56, 57] (by kernel_rfl) (by kernel_rfl) (fun _ _ d _ _ h => by cases d <;> exact h) ?_
                intro wd hbd
                have HBD := Lib.hid (bel_then HBW.out hbd)
                have hxd := HXE.out.bel hbd
                have had := (HAR.out.bel HBe.out).bel hbd
                have x0 := fun (x : Later (Below wd.heap.size wd)) => hxd.laterCellB 0 (v := .int .i64 pl) rfl x
                have x1 := fun (x : Later (Below wd.heap.size wd)) => hxd.laterCellB 1 (v := .int .i64 md) rfl x
                have x2 := fun (x : Later (Below wd.heap.size wd)) => hxd.laterCellB 2 (v := .int .i64 en) rfl x
                have z2 := fun (x : Later (Below wd.heap.size wd)) => had.laterCellB 2 (v := .slice a2 l2.length c2) rfl x
                have zf := fun (x : Later (Below wd.heap.size wd)) => later_cell (p := ⟨g3, 0, none⟩) (Nat.lt_of_lt_of_le HG3.out HBD.out.size) ((HBD.out.cell HG3.out).trans HF3.out) x
                have HC5 : Hid (wd.cell? ⟨w.heap.size, 5, none⟩ = some (.slice a5 l5.length c5)) := Lib.hid ((had.cell 5).trans rfl)
                clear hbd hxd had y2
                refine mix_step ?_
                simp only [pickOps, nth, Act.put, List.setIfInBounds_toArray, List.set_cons_succ, List.set_cons_zero]
                (repeat (go_big_quiet_step (fail)))
                refine wpQuiet_nil ?_
                go_wp2_with (refine (in_walk pl w.heap.size l5.length a5 c5 _ HC5.out).mono ?_; rw [HI1.out]; rintro e w' ⟨rfl, rfl⟩)
                refine ⟨Below.refl _ _, mix_step ?_⟩
                simp only [pickOps, nth, Act.put, List.setIfInBounds_toArray, List.set_cons_succ, List.set_cons_zero]
                (repeat (go_big_quiet_step (fail)))
                refine wpQuiet_nil ?_
                go_wp2_with (refine (in_walk (pl + 1) w.heap.size l5.length a5 c5 _ HC5.out).mono ?_; rw [HI2.out]; rintro e w' ⟨rfl, rfl⟩)
                refine ⟨Below.refl _ _, mix_end ?_⟩
                simp only [pickOps, nth, Act.put, List.setIfInBounds_toArray, List.set_cons_succ, List.set_cons_zero]
                (repeat (go_big_quiet_step (fail)))
                refine wpQuiet_nil ?_
                clear x0 x1 x2 z2 zf s3
                go_wp2
                go_roundw
                case rel => exact ⟨k + 1, by go_num, HLT.out, HFT.out.next HE.out HOK.out, HBD.out⟩
                case measure => simp [intOf]; have := HLT.out; omega
              obtain ⟨⟨pp, pm, pe⟩, hpp⟩ := get_lt (l := l7) (i := k - 1) (by omega)
              have HPP := Lib.hid hpp
              have k0 : 0 < k := by omega
              have k1 : k - 1 < l7.length := by omega
              have k0' : (0 : Int) < k := by omega
              have t1 : decide (0 < k) = true := decide_eq_true k0
              have t2 : decide ((0 : Int) < k) = true := decide_eq_true k0'
              clear hpp hk0
              by_cases hle : pl ≤ pp
              · have HV : Hid (false = mayObj X) := Lib.hid (by rw [HX.out]; exact (may_fixups (o := ⟨nm, ky, l2, vs, l4, l5, l6, l7⟩) (HFT.out.bad HE.out (fix_no (by rw [before_succ k0 HPP.out]; simp only [decide_eq_true_eq]; omega)))).symm)
                have hle' : decide (pl ≤ pp) = true := decide_eq_true hle
                clear hle
                go_wp2_with (first | (have _f := f3; refine wpList_load_mid rfl 105 (.tmp 79) rfl b7 (o7 + k * 3) rfl [.int .i64 pl, .int .i64 md, .int .i64 en] _ HCO.out Try.underlying105 rfl (by kernel_rfl) ?_; clear _f f3) | (have _f := f4; refine alloc_sep rfl 105 rfl (HSN.out _) (z := .agg #[.int .i64 0, .int .i64 0, .int .i64 0]) (cs := #[.int .i64 0, .int .i64 0, .int .i64 0]) (by kernel_rfl) rfl ?_; intro wc S' b' s'; have HSc := Lib.hid S'; have HBc := Lib.hid b'; clear S' b' s' _f f4) | (have _f := f5; refine store_sep (cells := #[.int .i64 pl, .int .i64 md, .int .i64 en]) rfl 105 (.tmp 5) (.tmp 80) rfl HSc.out 0 rfl rfl rfl (by kernel_rfl) rfl rfl ?_; intro we S' k' s'; have HBe : Hid (Below wr.heap.size wr we) := Lib.hid (((Ke.below (· = wr.heap.size) HBc.out).trans k').toBelow (fun i hi e => absurd e (Nat.ne_of_lt hi))); have HBW := Lib.hid (bel_then HBR.out HBe.out); have HXE := Lib.hid (S'.at 0 rfl); have y2 : we.cell? ⟨wr.heap.size, 2, none⟩ = some (.int .i64 en) := ((S'.at 0 rfl).cell 2).trans rfl; clear S' k' s' _f f5))
                have s3 : IntKind.i64.wrap (pl + 1) = pl + 1 := IntWalk.i64_in _ (by omega)
                have s4 : IntKind.i64.wrap ((k : Int) - 1) = ((k - 1 : Nat) : Int) := by rw [IntWalk.i64_in _ (by omega)]; omega
                refine wp_region_mix' [([0, 1, 2, 3, 4, 5, 6, 7, 8, 9, 10, 11, 12, 13, 14, 15, 16, 17, 18, 19, 20, 21, 22, 23, 24, 25], 26), ([27, 28, 29, 30, 31, 32, 33, 34, 35, 36, 37], 38)] [39, 40, 41, 42, 43, 44, 45, 46, 47, 48, 49, 50, 51, 52, 53, 54, 55, 56, 57] (by kernel_rfl) (by kernel_rfl) (fun _ _ d _ _ h => by cases d <;> exact h) ?_
                intro wd hbd
                have HBD := Lib.hid (bel_then HBW.out hbd)
                have hxd := HXE.out.bel hbd
                have had := (HAR.out.bel HBe.out).bel hbd
                have x0 := fun (x : Later (Below wd.heap.size wd)) => hxd.laterCellB 0 (v := .int .i64 pl) rfl x
                have x1 := fun (x : Later (Below wd.heap.size wd)) => hxd.laterCellB 1 (v := .int .i64 md) rfl x
                have x2 := fun (x : Later (Below wd.heap.size wd)) => hxd.laterCellB 2 (v := .int .i64 en) rfl x
                have z2 := fun (x : Later (Below wd.heap.size wd)) => had.laterCellB 2 (v := .slice a2 l2.length c2) rfl x
                have zf := fun (x : Later (Below wd.heap.size wd)) => later_cell (p := ⟨g3, 0, none⟩) (Nat.lt_of_lt_of_le HG3.out HBD.out.size) ((HBD.out.cell HG3.out).trans HF3.out) x
                have z7 := fun (x : Later (Below wd.heap.size wd)) => had.laterCellB 7 (v := .slice (some ⟨b7, o7, none⟩) l7.length c7) rfl x
                have zp := fun (x : Later (Below wd.heap.size wd)) => later_cell (p := ⟨b7, o7 + (k - 1) * 3, none⟩) (Nat.lt_of_lt_of_le HBN.out (bel_then HW3.out HBD.out).size) (((bel_then HW3.out HBD.out).cell HBN.out).trans (HCELL7.out (k - 1) _ HPP.out 0 _ rfl)) x
                have HC5 : Hid (wd.cell? ⟨w.heap.size, 5, none⟩ = some (.slice a5 l5.length c5)) := Lib.hid ((had.cell 5).trans rfl)
                clear hbd hxd had y2
                refine mix_step ?_
                simp only [pickOps, nth, Act.put, List.setIfInBounds_toArray, List.set_cons_succ, List.set_cons_zero]
                (repeat (go_big_quiet_step (fail)))
                refine wpQuiet_nil ?_
                go_wp2_with (refine (in_walk pl w.heap.size l5.length a5 c5 _ HC5.out).mono ?_; rw [HI1.out]; rintro e w' ⟨rfl, rfl⟩)
                refine ⟨Below.refl _ _, mix_step ?_⟩
                simp only [pickOps, nth, Act.put, List.setIfInBounds_toArray, List.set_cons_succ, List.set_cons_zero]
                (repeat (go_big_quiet_step (fail)))
                refine wpQuiet_nil ?_
                go_wp2_with (refine (in_walk (pl + 1) w.heap.size l5.length a5 c5 _ HC5.out).mono ?_; rw [HI2.out]; rintro e w' ⟨rfl, rfl⟩)
                refine ⟨Below.refl _ _, mix_end ?_⟩
                simp only [pickOps, nth, Act.put, List.setIfInBounds_toArray, List.set_cons_succ, List.set_cons_zero]
                (repeat (go_big_quiet_step (fail)))
                refine wpQuiet_nil ?_
                clear x0 x1 x2 z2 zf z7 zp s3 s4
                go_wp2
                go_ret
                exact ⟨ret_bool HV.out, bel_then HW3.out HBD.out⟩
              have HOK : Hid (fixOk l5.length l2.length (prevF l7 k) ⟨pl, md, en⟩ = true) := Lib.hid (fix_yes ⟨by dsimp only; have := Q0.out; have := Q1.out; have := Q2.out; have := Q3.out; have := HP.out; have := HP2.out; have := E0.out; omega, by dsimp only; have := Q0.out; have := Q1.out; have := Q2.out; have := Q3.out; have := HP.out; have := HP2.out; have := E0.out; omega, by dsimp only; have := Q0.out; have := Q1.out; have := Q2.out; have := Q3.out; have := HP.out; have := HP2.out; have := E0.out; omega, by dsimp only; have := Q0.out; have := Q1.out; have := Q2.out; have := Q3.out; have := HP.out; have := HP2.out; have := E0.out; omega, by dsimp only; have := Q0.out; have := Q1.out; have := Q2.out; have := Q3.out; have := HP.out; have := HP2.out; have := E0.out; omega, by dsimp only; have := Q0.out; have := Q1.out; have := Q2.out; have := Q3.out; have := HP.out; have := HP2.out; have := E0.out; omega, by dsimp only; have := Q0.out; have := Q1.out; have := Q2.out; have := Q3.out; have := HP.out; have := HP2.out; have := E0.out; omega, by dsimp only; have := Q0.out; have := Q1.out; have := Q2.out; have := Q3.out; have := HP.out; have := HP2.out; have := E0.out; omega, by rw [before_succ k0 HPP.out]; exact decide_eq_true (by dsimp only; omega)⟩)
              have hle' : decide (pl ≤ pp) = false := decide_eq_false hle
              clear hle
              go_wp2_with (first | (have _f := f3; refine wpList_load_mid rfl 105 (.tmp 79) rfl b7 (o7 + k * 3) rfl [.int .i64 pl, .int .i64 md, .int .i64 en] _ HCO.out Try.underlying105 rfl (by kernel_rfl) ?_; clear _f f3) | (have _f := f4; refine alloc_sep rfl 105 rfl (HSN.out _) (z := .agg #[.int .i64 0, .int .i64 0, .int .i64 0]) (cs := #[.int .i64 0, .int .i64 0, .int .i64 0]) (by kernel_rfl) rfl ?_; intro wc S' b' s'; have HSc := Lib.hid S'; have HBc := Lib.hid b'; clear S' b' s' _f f4) | (have _f := f5; refine store_sep (cells := #[.int .i64 pl, .int .i64 md, .int .i64 en]) rfl 105 (.tmp 5) (.tmp 80) rfl HSc.out 0 rfl rfl rfl (by kernel_rfl) rfl rfl ?_; intro we S' k' s'; have HBe : Hid (Below wr.heap.size wr we) := Lib.hid (((Ke.below (· = wr.heap.size) HBc.out).trans k').toBelow (fun i hi e => absurd e (Nat.ne_of_lt hi))); have HBW := Lib.hid (bel_then HBR.out HBe.out); have HXE := Lib.hid (S'.at 0 rfl); have y2 : we.cell? ⟨wr.heap.size, 2, none⟩ = some (.int .i64 en) := ((S'.at 0 rfl).cell 2).trans rfl; clear S' k' s' _f f5))
              have s3 : IntKind.i64.wrap (pl + 1) = pl + 1 := IntWalk.i64_in _ (by omega)
              have s4 : IntKind.i64.wrap ((k : Int) - 1) = ((k - 1 : Nat) : Int) := by rw [IntWalk.i64_in _ (by omega)]; omega
              refine wp_region_mix' [([0, 1, 2, 3, 4, 5, 6, 7, 8, 9, 10, 11, 12, 13, 14, 15, 16, 17, 18, 19, 20, 21, 22, 23, 24, 25], 26), ([27, 28, 29, 30, 31, 32, 33, 34, 35, 36, 37], 38)] [39, 40, 41, 42, 43, 44, 45, 46, 47, 48, 49, 50, 51, 52, 53, 54, 55, 56, 57] (by kernel_rfl) (by kernel_rfl) (fun _ _ d _ _ h => by cases d <;> exact h) ?_
              intro wd hbd
              have HBD := Lib.hid (bel_then HBW.out hbd)
              have hxd := HXE.out.bel hbd
              have had := (HAR.out.bel HBe.out).bel hbd
              have x0 := fun (x : Later (Below wd.heap.size wd)) => hxd.laterCellB 0 (v := .int .i64 pl) rfl x
              have x1 := fun (x : Later (Below wd.heap.size wd)) => hxd.laterCellB 1 (v := .int .i64 md) rfl x
              have x2 := fun (x : Later (Below wd.heap.size wd)) => hxd.laterCellB 2 (v := .int .i64 en) rfl x
              have z2 := fun (x : Later (Below wd.heap.size wd)) => had.laterCellB 2 (v := .slice a2 l2.length c2) rfl x
              have zf := fun (x : Later (Below wd.heap.size wd)) => later_cell (p := ⟨g3, 0, none⟩) (Nat.lt_of_lt_of_le HG3.out HBD.out.size) ((HBD.out.cell HG3.out).trans HF3.out) x
              have z7 := fun (x : Later (Below wd.heap.size wd)) => had.laterCellB 7 (v := .slice (some ⟨b7, o7, none⟩) l7.length c7) rfl x
              have zp := fun (x : Later (Below wd.heap.size wd)) => later_cell (p := ⟨b7, o7 + (k - 1) * 3, none⟩) (Nat.lt_of_lt_of_le HBN.out (bel_then HW3.out HBD.out).size) (((bel_then HW3.out HBD.out).cell HBN.out).trans (HCELL7.out (k - 1) _ HPP.out 0 _ rfl)) x
              have HC5 : Hid (wd.cell? ⟨w.heap.size, 5, none⟩ = some (.slice a5 l5.length c5)) := Lib.hid ((had.cell 5).trans rfl)
              clear hbd hxd had y2
              refine mix_step ?_
              simp only [pickOps, nth, Act.put, List.setIfInBounds_toArray, List.set_cons_succ, List.set_cons_zero]
              (repeat (go_big_quiet_step (fail)))
              refine wpQuiet_nil ?_
              go_wp2_with (refine (in_walk pl w.heap.size l5.length a5 c5 _ HC5.out).mono ?_; rw [HI1.out]; rintro e w' ⟨rfl, rfl⟩)
              refine ⟨Below.refl _ _, mix_step ?_⟩
              simp only [pickOps, nth, Act.put, List.setIfInBounds_toArray, List.set_cons_succ, List.set_cons_zero]
              (repeat (go_big_quiet_step (fail)))
              refine wpQuiet_nil ?_
              go_wp2_with (refine (in_walk (pl + 1) w.heap.size l5.length a5 c5 _ HC5.out).mono ?_; rw [HI2.out]; rintro e w' ⟨rfl, rfl⟩)
              refine ⟨Below.refl _ _, mix_end ?_⟩
              simp only [pickOps, nth, Act.put, List.setIfInBounds_toArray, List.set_cons_succ, List.set_cons_zero]
              (repeat (go_big_quiet_step (fail)))
              refine wpQuiet_nil ?_
              clear x0 x1 x2 z2 zf z7 zp s3 s4
              go_wp2
              go_roundw
              case rel => exact ⟨k + 1, by go_num, HLT.out, HFT.out.next HE.out HOK.out, HBD.out⟩
              case measure => simp [intOf]; have := HLT.out; omega
          have he0 : (en == 0) = false := by rw [beq_eq_false_iff_ne]; exact e0
          have E0 := Lib.hid e0
          clear e0
          by_cases hk0 : k = 0
          · have HOK : Hid (fixOk l5.length l2.length (prevF l7 k) ⟨pl, md, en⟩ = true) := Lib.hid (fix_yes ⟨by dsimp only; have := Q0.out; have := Q1.out; have := Q2.out; have := Q3.out; have := HP.out; have := E0.out; omega, by dsimp only; have := Q0.out; have := Q1.out; have := Q2.out; have := Q3.out; have := HP.out; have := E0.out; omega, by dsimp only; have := Q0.out; have := Q1.out; have := Q2.out; have := Q3.out; have := HP.out; have := E0.out; omega, by dsimp only; have := Q0.out; have := Q1.out; have := Q2.out; have := Q3.out; have := HP.out; have := E0.out; omega, by dsimp only; have := Q0.out; have := Q1.out; have := Q2.out; have := Q3.out; have := HP.out; have := E0.out; omega, by dsimp only; have := Q0.out; have := Q1.out; have := Q2.out; have := Q3.out; have := HP.out; have := E0.out; omega, by dsimp only; have := Q0.out; have := Q1.out; have := Q2.out; have := Q3.out; have := HP.out; have := E0.out; omega, by dsimp only; have := Q0.out; have := Q1.out; have := Q2.out; have := Q3.out; have := HP.out; have := E0.out; omega, by rw [hk0]; exact before_zero⟩)
            have t1 : decide (0 < k) = false := decide_eq_false (by omega)
            have t2 : decide ((0 : Int) < k) = false := decide_eq_false (by omega)
            clear hk0
            go_wp2_with (first | (have _f := f3; refine wpList_load_mid rfl 105 (.tmp 79) rfl b7 (o7 + k * 3) rfl [.int .i64 pl, .int .i64 md, .int .i64 en] _ HCO.out Try.underlying105 rfl (by kernel_rfl) ?_; clear _f f3) | (have _f := f4; refine alloc_sep rfl 105 rfl (HSN.out _) (z := .agg #[.int .i64 0, .int .i64 0, .int .i64 0]) (cs := #[.int .i64 0, .int .i64 0, .int .i64 0]) (by kernel_rfl) rfl ?_; intro wc S' b' s'; have HSc := Lib.hid S'; have HBc := Lib.hid b'; clear S' b' s' _f f4) | (have _f := f5; refine store_sep (cells := #[.int .i64 pl, .int .i64 md, .int .i64 en]) rfl 105 (.tmp 5) (.tmp 80) rfl HSc.out 0 rfl rfl rfl (by kernel_rfl) rfl rfl ?_; intro we S' k' s'; have HBe : Hid (Below wr.heap.size wr we) := Lib.hid (((Ke.below (· = wr.heap.size) HBc.out).trans k').toBelow (fun i hi e => absurd e (Nat.ne_of_lt hi))); have HBW := Lib.hid (bel_then HBR.out HBe.out); have HXE := Lib.hid (S'.at 0 rfl); have y2 : we.cell? ⟨wr.heap.size, 2, none⟩ = some (.int .i64 en) := ((S'.at 0 rfl).cell 2).trans rfl; clear S' k' s' _f f5))
            refine wp_region_mix' [([0, 1, 2, 3, 4, 5, 6, 7, 8, 9, 10, 11, 12, 13, 14, 15, 16, 17, 18, 19, 20, 21, 22, 23, 24, 25], 26), ([27, 28, 29, 30, 31, 32, 33, 34, 35, 36, 37], 38)] [39, 40, 41, 42, 43, 44, 45, 46, 47, 48, 49, 50, 51, 52, 53, 54, 55, 56, 57] (by kernel_rfl) (by kernel_rfl) (fun _ _ d _ _ h => by cases d <;> exact h) ?_
            intro wd hbd
            have HBD := Lib.hid (bel_then HBW.out hbd)
            have hxd := HXE.out.bel hbd
            have had := (HAR.out.bel HBe.out).bel hbd
            have x0 := fun (x : Later (Below wd.heap.size wd)) => hxd.laterCellB 0 (v := .int .i64 pl) rfl x
            have x1 := fun (x : Later (Below wd.heap.size wd)) => hxd.laterCellB 1 (v := .int .i64 md) rfl x
            have x2 := fun (x : Later (Below wd.heap.size wd)) => hxd.laterCellB 2 (v := .int .i64 en) rfl x
            have z2 := fun (x : Later (Below wd.heap.size wd)) => had.laterCellB 2 (v := .slice a2 l2.length c2) rfl x
            have zf := fun (x : Later (Below wd.heap.size wd)) => later_cell (p := ⟨g3, 0, none⟩) (Nat.lt_of_lt_of_le HG3.out HBD.out.size) ((HBD.out.cell HG3.out).trans HF3.out) x
            have HC5 : Hid (wd.cell? ⟨w.heap.size, 5, none⟩ = some (.slice a5 l5.length c5)) := Lib.hid ((had.cell 5).trans rfl)
            clear hbd hxd had y2
            refine mix_step ?_
            simp only [pickOps, nth, Act.put, List.setIfInBounds_toArray, List.set_cons_succ, List.set_cons_zero]
            (repeat (go_big_quiet_step (fail)))
            refine wpQuiet_nil ?_
            go_wp2_with (refine (in_walk pl w.heap.size l5.length a5 c5 _ HC5.out).mono ?_; rw [HI1.out]; rintro e w' ⟨rfl, rfl⟩)
            refine ⟨Below.refl _ _, mix_step ?_⟩
            simp only [pickOps, nth, Act.put, List.setIfInBounds_toArray, List.set_cons_succ, List.set_cons_zero]
            (repeat (go_big_quiet_step (fail)))
            refine wpQuiet_nil ?_
            go_wp2
            refine ⟨Below.refl _ _, mix_end ?_⟩
            simp only [pickOps, nth, Act.put, List.setIfInBounds_toArray, List.set_cons_succ, List.set_cons_zero]
            (repeat (go_big_quiet_step (fail)))
            refine wpQuiet_nil ?_
            clear x0 x1 x2 z2 zf
            go_wp2
            go_roundw
            case rel => exact ⟨k + 1, by go_num, HLT.out, HFT.out.next HE.out HOK.out, HBD.out⟩
            case measure => simp [intOf]; have := HLT.out; omega
          obtain ⟨⟨pp, pm, pe⟩, hpp⟩ := get_lt (l := l7) (i := k - 1) (by omega)
          have HPP := Lib.hid hpp
          have k0 : 0 < k := by omega
          have k1 : k - 1 < l7.length := by omega
          have k0' : (0 : Int) < k := by omega
          have t1 : decide (0 < k) = true := decide_eq_true k0
          have t2 : decide ((0 : Int) < k) = true := decide_eq_true k0'
          clear hpp hk0
          by_cases hle : pl ≤ pp
          · have HV : Hid (false = mayObj X) := Lib.hid (by rw [HX.out]; exact (may_fixups (o := ⟨nm, ky, l2, vs, l4, l5, l6, l7⟩) (HFT.out.bad HE.out (fix_no (by rw [before_succ k0 HPP.out]; simp only [decide_eq_true_eq]; omega)))).symm)
            have hle' : decide (pl ≤ pp) = true := decide_eq_true hle
            clear hle
            go_wp2_with (first | (have _f := f3; refine wpList_load_mid rfl 105 (.tmp 79) rfl b7 (o7 + k * 3) rfl [.int .i64 pl, .int .i64 md, .int .i64 en] _ HCO.out Try.underlying105 rfl (by kernel_rfl) ?_; clear _f f3) | (have _f := f4; refine alloc_sep rfl 105 rfl (HSN.out _) (z := .agg #[.int .i64 0, .int .i64 0, .int .i64 0]) (cs := #[.int .i64 0, .int .i64 0, .int .i64 0]) (by kernel_rfl) rfl ?_; intro wc S' b' s'; have HSc := Lib.hid S'; have HBc := Lib.hid b'; clear S' b' s' _f f4) | (have _f := f5; refine store_sep (cells := #[.int .i64 pl, .int .i64 md, .int .i64 en]) rfl 105 (.tmp 5) (.tmp 80) rfl HSc.out 0 rfl rfl rfl (by kernel_rfl) rfl rfl ?_; intro we S' k' s'; have HBe : Hid (Below wr.heap.size wr we) := Lib.hid (((Ke.below (· = wr.heap.size) HBc.out).trans k').toBelow (fun i hi e => absurd e (Nat.ne_of_lt hi))); have HBW := Lib.hid (bel_then HBR.out HBe.out); have HXE := Lib.hid (S'.at 0 rfl); have y2 : we.cell? ⟨wr.heap.size, 2, none⟩ = some (.int .i64 en) := ((S'.at 0 rfl).cell 2).trans rfl; clear S' k' s' _f f5))
            have s4 : IntKind.i64.wrap ((k : Int) - 1) = ((k - 1 : Nat) : Int) := by rw [IntWalk.i64_in _ (by omega)]; omega
            refine wp_region_mix' [([0, 1, 2, 3, 4, 5, 6, 7, 8, 9, 10, 11, 12, 13, 14, 15, 16, 17, 18, 19, 20, 21, 22, 23, 24, 25], 26), ([27, 28, 29, 30, 31, 32, 33, 34, 35, 36, 37], 38)] [39, 40, 41, 42, 43, 44, 45, 46, 47, 48, 49, 50, 51, 52, 53, 54, 55, 56, 57] (by kernel_rfl) (by kernel_rfl) (fun _ _ d _ _ h => by cases d <;> exact h) ?_
            intro wd hbd
            have HBD := Lib.hid (bel_then HBW.out hbd)
            have hxd := HXE.out.bel hbd
            have had := (HAR.out.bel HBe.out).bel hbd
            have x0 := fun (x : Later (Below wd.heap.size wd)) => hxd.laterCellB 0 (v := .int .i64 pl) rfl x
            have x1 := fun (x : Later (Below wd.heap.size wd)) => hxd.laterCellB 1 (v := .int .i64 md) rfl x
            have x2 := fun (x : Later (Below wd.heap.size wd)) => hxd.laterCellB 2 (v := .int .i64 en) rfl x
            have z2 := fun (x : Later (Below wd.heap.size wd)) => had.laterCellB 2 (v := .slice a2 l2.length c2) rfl x
            have zf := fun (x : Later (Below wd.heap.size wd)) => later_cell (p := ⟨g3, 0, none⟩) (Nat.lt_of_lt_of_le HG3.out HBD.out.size) ((HBD.out.cell HG3.out).trans HF3.out) x
            have z7 := fun (x : Later (Below wd.heap.size wd)) => had.laterCellB 7 (v := .slice (some ⟨b7, o7, none⟩) l7.length c7) rfl x
            have zp := fun (x : Later (Below wd.heap.size wd)) => later_cell (p := ⟨b7, o7 + (k - 1) * 3, none⟩) (Nat.lt_of_lt_of_le HBN.out (bel_then HW3.out HBD.out).size) (((bel_then HW3.out HBD.out).cell HBN.out).trans (HCELL7.out (k - 1) _ HPP.out 0 _ rfl)) x
            have HC5 : Hid (wd.cell? ⟨w.heap.size, 5, none⟩ = some (.slice a5 l5.length c5)) := Lib.hid ((had.cell 5).trans rfl)
            clear hbd hxd had y2
            refine mix_step ?_
            simp only [pickOps, nth, Act.put, List.setIfInBounds_toArray, List.set_cons_succ, List.set_cons_zero]
            (repeat (go_big_quiet_step (fail)))
            refine wpQuiet_nil ?_
            go_wp2_with (refine (in_walk pl w.heap.size l5.length a5 c5 _ HC5.out).mono ?_; rw [HI1.out]; rintro e w' ⟨rfl, rfl⟩)
            refine ⟨Below.refl _ _, mix_step ?_⟩
            simp only [pickOps, nth, Act.put, List.setIfInBounds_toArray, List.set_cons_succ, List.set_cons_zero]
            (repeat (go_big_quiet_step (fail)))
            refine wpQuiet_nil ?_
            go_wp2
            refine ⟨Below.refl _ _, mix_end ?_⟩
            simp only [pickOps, nth, Act.put, List.setIfInBounds_toArray, List.set_cons_succ, List.set_cons_zero]
            (repeat (go_big_quiet_step (fail)))
            refine wpQuiet_nil ?_
            clear x0 x1 x2 z2 zf z7 zp s4
            go_wp2
            go_ret
            exact ⟨ret_bool HV.out, bel_then HW3.out HBD.out⟩
          have HOK : Hid (fixOk l5.length l2.length (prevF l7 k) ⟨pl, md, en⟩ = true) := Lib.hid (fix_yes ⟨by dsimp only; have := Q0.out; have := Q1.out; have := Q2.out; have := Q3.out; have := HP.out; have := E0.out; omega, by dsimp only; have := Q0.out; have := Q1.out; have := Q2.out; have := Q3.out; have := HP.out; have := E0.out; omega, by dsimp only; have := Q0.out; have := Q1.out; have := Q2.out; have := Q3.out; have := HP.out; have := E0.out; omega, by dsimp only; have := Q0.out; have := Q1.out; have := Q2.out; have := Q3.out; have := HP.out; have := E0.out; omega, by dsimp only; have := Q0.out; have := Q1.out; have := Q2.out; have := Q3.out; have := HP.out; have := E0.out; omega, by dsimp only; have := Q0.out; have := Q1.out; have := Q2.out; have := Q3.out; have := HP.out; have := E0.out; omega, by dsimp only; have := Q0.out; have := Q1.out; have := Q2.out; have := Q3.out; have := HP.out; have := E0.out; omega, by dsimp only; have := Q0.out; have := Q1.out; have := Q2.out; have := Q3.out; have := HP.out; have := E0.out; omega, by rw [before_succ k0 HPP.out]; exact decide_eq_true (by dsimp only; omega)⟩)
          have hle' : decide (pl ≤ pp) = false := decide_eq_false hle
          clear hle
          go_wp2_with (first | (have _f := f3; refine wpList_load_mid rfl 105 (.tmp 79) rfl b7 (o7 + k * 3) rfl [.int .i64 pl, .int .i64 md, .int .i64 en] _ HCO.out Try.underlying105 rfl (by kernel_rfl) ?_; clear _f f3) | (have _f := f4; refine alloc_sep rfl 105 rfl (HSN.out _) (z := .agg #[.int .i64 0, .int .i64 0, .int .i64 0]) (cs := #[.int .i64 0, .int .i64 0, .int .i64 0]) (by kernel_rfl) rfl ?_; intro wc S' b' s'; have HSc := Lib.hid S'; have HBc := Lib.hid b'; clear S' b' s' _f f4) | (have _f := f5; refine store_sep (cells := #[.int .i64 pl, .int .i64 md, .int .i64 en]) rfl 105 (.tmp 5) (.tmp 80) rfl HSc.out 0 rfl rfl rfl (by kernel_rfl) rfl rfl ?_; intro we S' k' s'; have HBe : Hid (Below wr.heap.size wr we) := Lib.hid (((Ke.below (· = wr.heap.size) HBc.out).trans k').toBelow (fun i hi e => absurd e (Nat.ne_of_lt hi))); have HBW := Lib.hid (bel_then HBR.out HBe.out); have HXE := Lib.hid (S'.at 0 rfl); have y2 : we.cell? ⟨wr.heap.size, 2, none⟩ = some (.int .i64 en) := ((S'.at 0 rfl).cell 2).trans rfl; clear S' k' s' _f f5))
          have s4 : IntKind.i64.wrap ((k : Int) - 1) = ((k - 1 : Nat) : Int) := by rw [IntWalk.i64_in _ (by omega)]; omega
          refine wp_region_mix' [([0, 1, 2, 3, 4, 5, 6, 7, 8, 9, 10, 11, 12, 13, 14, 15, 16, 17, 18, 19, 20, 21, 22, 23, 24, 25], 26), ([27, 28, 29, 30, 31, 32, 33, 34, 35, 36, 37], 38)] [39, 40, 41, 42, 43, 44, 45, 46, 47, 48, 49, 50, 51, 52, 53, 54, 55, 56, 57] (by kernel_rfl) (by kernel_rfl) (fun _ _ d _ _ h => by cases d <;> exact h) ?_
          intro wd hbd
          have HBD := Lib.hid (bel_then HBW.out hbd)
          have hxd := HXE.out.bel hbd
          have had := (HAR.out.bel HBe.out).bel hbd
          have x0 := fun (x : Later (Below wd.heap.size wd)) => hxd.laterCellB 0 (v := .int .i64 pl) rfl x
          have x1 := fun (x : Later (Below wd.heap.size wd)) => hxd.laterCellB 1 (v := .int .i64 md) rfl x
          have x2 := fun (x : Later (Below wd.heap.size wd)) => hxd.laterCellB 2 (v := .int .i64 en) rfl x
          have z2 := fun (x : Later (Below wd.heap.size wd)) => had.laterCellB 2 (v := .slice a2 l2.length c2) rfl x
          have zf := fun (x : Later (Below wd.heap.size wd)) => later_cell (p := ⟨g3, 0, none⟩) (Nat.lt_of_lt_of_le HG3.out HBD.out.size) ((HBD.out.cell HG3.out).trans HF3.out) x
          have z7 := fun (x : Later (Below wd.heap.size wd)) => had.laterCellB 7 (v := .slice (some ⟨b7, o7, none⟩) l7.length c7) rfl x
          have zp := fun (x : Later (Below wd.heap.size wd)) => later_cell (p := ⟨b7, o7 + (k - 1) * 3, none⟩) (Nat.lt_of_lt_of_le HBN.out (bel_then HW3.out HBD.out).size) (((bel_then HW3.out HBD.out).cell HBN.out).trans (HCELL7.out (k - 1) _ HPP.out 0 _ rfl)) x
          have HC5 : Hid (wd.cell? ⟨w.heap.size, 5, none⟩ = some (.slice a5 l5.length c5)) := Lib.hid ((had.cell 5).trans rfl)
          clear hbd hxd had y2
          refine mix_step ?_
          simp only [pickOps, nth, Act.put, List.setIfInBounds_toArray, List.set_cons_succ, List.set_cons_zero]
          (repeat (go_big_quiet_step (fail)))
          refine wpQuiet_nil ?_
          go_wp2_with (refine (in_walk pl w.heap.size l5.length a5 c5 _ HC5.out).mono ?_; rw [HI1.out]; rintro e w' ⟨rfl, rfl⟩)
          refine ⟨Below.refl _ _, mix_step ?_⟩
          simp only [pickOps, nth, Act.put, List.setIfInBounds_toArray, List.set_cons_succ, List.set_cons_zero]
          (repeat (go_big_quiet_step (fail)))
          refine wpQuiet_nil ?_
          go_wp2
          refine ⟨Below.refl _ _, mix_end ?_⟩
          simp only [pickOps, nth, Act.put, List.setIfInBounds_toArray, List.set_cons_succ, List.set_cons_zero]
          (repeat (go_big_quiet_step (fail)))
          refine wpQuiet_nil ?_
          clear x0 x1 x2 z2 zf z7 zp s4
          go_wp2
          go_roundw
          case rel => exact ⟨k + 1, by go_num, HLT.out, HFT.out.next HE.out HOK.out, HBD.out⟩
          case measure => simp [intOf]; have := HLT.out; omega
      · have HDN := Lib.hid (HFT.out.done (by omega))
        have HV : Hid (true = mayObj X) := Lib.hid (by rw [HX.out] at HS HC ⊢; exact (may_yes (o := ⟨nm, ky, l2, vs, l4, l5, l6, l7⟩) HMVV.out HS.out HC.out HEN.out HDN.out).symm)
        clear hk
        go_wp2
        go_ret
        exact ⟨ret_bool HV.out, bel_then HW3.out HBR.out⟩
end Go.Proofs.Ytfnibpkojhgflaa
