/- Contract: face.Shows. Printed by bin/gen_faceshows.py. -/
import Derived.Test.YtgcjdkgeiopllaaFaceAlike
import Derived.Test.YtgcjdkgeiopllaaFaceMay
namespace Go.Proofs.Ytgcjdkgeiopllaa
set_option linter.unusedVariables false
set_option linter.unusedSimpArgs false
open Go.RowKit

theorem found_cases {f : Fc} {s : ByteArray} {e : Ending} {w' : World} (h : FoundF f s e w') :
    (∃ (dl : Int) (qn : ByteArray) (em ei ua : Int) (qa : Option Addr) (qc : Nat) (ql : List Prm) (ta : Option Addr) (tc : Nat) (tl : List Prm), (⟨dl, qn, ⟨em, ei⟩, ua, ⟨qa, qc, ql⟩⟩ : FO) ∈ f.objs.l ∧ qn = s ∧ tl = ql ∧ Rows prmD w' ⟨ta, tc, tl⟩ ∧ e = .returned (.tuple #[.agg #[.int .i64 dl, .string qn, .int .i64 em, .int .i64 ei, .int .u32 ua, .slice ta tl.length tc], .bool true])) ∨
    ((∀ q ∈ f.objs.l, q.name ≠ s) ∧ e = .returned (.tuple #[.agg #[.int .i64 0, .string ⟨#[]⟩, .int .i64 0, .int .i64 0, .int .u32 0, .slice none 0 0], .bool false])) := by
  rcases h with ⟨⟨dl, qn, ⟨em, ei⟩, ua, ⟨qa, qc, ql⟩⟩, ⟨ta, tc, tl⟩, h1, h2, h3, h4, h5⟩ | h
  · exact .inl ⟨dl, qn, em, ei, ua, qa, qc, ql, ta, tc, tl, h1, h2, h3, h4, h5⟩
  · exact .inr h
theorem may_objs_params {f : FD} (h : mayFace f = true) {o : ODD} (ho : o ∈ f.objs) : o.params.length ≤ 1000000 := by
  have : ∀ (l : List ODD) (seen : List ODD), objsOk f.env seen l = true → ∀ y ∈ l, mayObjB f.env y = true := by
    intro l
    induction l with
    | nil => intro _ _ y hy; cases hy
    | cons z r ih =>
      intro seen hh y hy
      unfold objsOk at hh
      simp only [Bool.and_eq_true] at hh
      rcases List.mem_cons.1 hy with rfl | hy
      · exact hh.1.1
      · exact ih _ hh.2 y hy
  have h := this _ _ (may_parts h) o ho
  unfold mayObjB at h
  rw [Bool.and_eq_true] at h
  have h := h.2
  split at h
  · simp only [Bool.and_eq_true, decide_eq_true_eq] at h; omega
  · rw [Bool.and_eq_true, decide_eq_true_eq] at h; omega
/-- objects that were gone through. -/
def ObjsTo (x y : Fc) (T : List (Nat × Nat)) (k : Nat) : Prop := ∀ (j : Nat) (o : FO), j < k → x.objs.l[j]? = some o → ∃ q ∈ y.objs.l, q.name = o.name ∧ SameT x.d y.d (inT T) o.d q.d
theorem shows_done {x y : Fc} {T : List (Nat × Nat)} {k : Nat} (mx : mayFace x.d = true) (my : mayFace y.d = true) (hn : x.name = y.name) (hl : x.objs.l.length = y.objs.l.length) (hH : Holds x.d y.d [] T) (hk : x.objs.l.length ≤ k) (h : ObjsTo x y T k) : showsB x.d y.d = true := by
  refine showsB_yes ⟨mx, my, hn, by show (x.objs.l.map FO.d).length = (y.objs.l.map FO.d).length; rw [List.length_map, List.length_map, hl], fun o ho => ?_⟩
  obtain ⟨o', ho', rfl⟩ := List.mem_map.1 (show o ∈ x.objs.l.map FO.d from ho)
  obtain ⟨j, hj⟩ := List.mem_iff_getElem?.1 ho'
  obtain ⟨q, hq, e, hs⟩ := h j o' (Nat.lt_of_lt_of_le (List.getElem?_eq_some_iff.1 hj).1 hk) hj
  have hc : ∀ i j, inT T i j → localP x.d y.d (inT T) i j := fun i j h => (hH (i, j) h).resolve_left (by simp)
  exact ⟨q.d, show q.d ∈ y.objs.l.map FO.d from List.mem_map_of_mem hq, e, sameT_mono (fun i j h => alike_of hc h) hs⟩
theorem shows_none {x y : Fc} {o : FO} (ho : o ∈ x.objs.l) (h : ∀ q ∈ y.objs.l, q.name ≠ o.name) : showsB x.d y.d = false := by
  refine showsB_no (fun ⟨_, _, _, _, k⟩ => ?_)
  obtain ⟨q, hq, e, _⟩ := k o.d (show o.d ∈ x.objs.l.map FO.d from List.mem_map_of_mem ho)
  obtain ⟨q', hq', rfl⟩ := List.mem_map.1 (show q ∈ y.objs.l.map FO.d from hq)
  exact h q' hq' e
theorem shows_unlike {x y : Fc} {o q : FO} (ho : o ∈ x.objs.l) (hq : q ∈ y.objs.l) (e : q.name = o.name) (h : ¬ sameO x.d y.d o.d q.d) : showsB x.d y.d = false := by
  refine showsB_no (fun ⟨_, my, _, _, k⟩ => ?_)
  obtain ⟨q', hq', e', hs⟩ := k o.d (show o.d ∈ x.objs.l.map FO.d from List.mem_map_of_mem ho)
  have := nodup_inj (may_nodup my) q' hq' q.d (show q.d ∈ y.objs.l.map FO.d from List.mem_map_of_mem hq) (e'.trans e.symm)
  exact h (this ▸ hs)

set_option maxRecDepth 100000 in
set_option maxHeartbeats 16000000 in
theorem shows_walk (x y : Fc) (w : World) (hx : x.Rd w) (hy : y.Rd w) :
    Calls Try.prog 9 #[x.val, y.val] w fun e w' => e = .returned (.bool (showsB x.d y.d)) ∧ Below w.heap.size w w' := by
  have HX := Lib.hid hx
  have HY := Lib.hid hy
  have HMX : Hid (∀ W, Below w.heap.size w W → Calls Try.prog 20 #[x.val] W fun e' w' => e' = .returned (.bool (mayFace x.d)) ∧ Below W.heap.size W w') := Lib.hid (fun W k => may_walk x W (hx.bel k))
  have HMY : Hid (∀ W, Below w.heap.size w W → Calls Try.prog 20 #[y.val] W fun e' w' => e' = .returned (.bool (mayFace y.d)) ∧ Below W.heap.size W w') := Lib.hid (fun W k => may_walk y W (hy.bel k))
  have HNX : Hid (¬ (mayFace x.d = true ∧ mayFace y.d = true ∧ x.name = y.name ∧ x.objs.l.length = y.objs.l.length) → showsB x.d y.d = false) := Lib.hid (fun hn => showsB_no (fun k => hn ⟨k.1, k.2.1, k.2.2.1, by have := k.2.2.2.1; rwa [show x.d.objs = x.objs.l.map FO.d from rfl, show y.d.objs = y.objs.l.map FO.d from rfl, List.length_map, List.length_map] at this⟩))
  have i3 := hx.objs.len
  have j3 := hy.objs.len
  clear hx hy
  obtain ⟨xn, ⟨xa1, xc1, xl1⟩, ⟨xa2, xc2, xl2⟩, ⟨xa3, xc3, xl3⟩⟩ := x
  obtain ⟨yn, ⟨ya1, yc1, yl1⟩, ⟨ya2, yc2, yl2⟩, ⟨ya3, yc3, yl3⟩⟩ := y
  obtain ⟨x, hxe⟩ : ∃ x : Fc, x = ⟨xn, ⟨xa1, xc1, xl1⟩, ⟨xa2, xc2, xl2⟩, ⟨xa3, xc3, xl3⟩⟩ := ⟨_, rfl⟩
  obtain ⟨y, hye⟩ : ∃ y : Fc, y = ⟨yn, ⟨ya1, yc1, yl1⟩, ⟨ya2, yc2, yl2⟩, ⟨ya3, yc3, yl3⟩⟩ := ⟨_, rfl⟩
  rw [← hxe] at HX HMX HNX ⊢
  rw [← hye] at HY HMY HNX ⊢
  have HXE := Lib.hid hxe
  have HYE := Lib.hid hye
  have HXV : Hid (x.val = .agg #[.string xn, .slice xa1 xl1.length xc1, .slice xa2 xl2.length xc2, .slice xa3 xl3.length xc3]) := Lib.hid (by rw [hxe]; rfl)
  have HYV : Hid (y.val = .agg #[.string yn, .slice ya1 yl1.length yc1, .slice ya2 yl2.length yc2, .slice ya3 yl3.length yc3]) := Lib.hid (by rw [hye]; rfl)
  rw [HXV.out, HYV.out]
  rw [HXV.out] at HMX
  rw [HYV.out] at HMY
  dsimp only at i3 j3
  have HNN : Hid (x.name = xn ∧ y.name = yn ∧ x.objs.l = xl3 ∧ y.objs.l = yl3) := Lib.hid (by rw [hxe, hye]; exact ⟨rfl, rfl, rfl, rfl⟩)
  obtain ⟨R, hR⟩ : ∃ R, R = showsB x.d y.d := ⟨_, rfl⟩
  have HR := Lib.hid hR
  obtain ⟨MX, hMX⟩ : ∃ M, M = mayFace x.d := ⟨_, rfl⟩
  obtain ⟨MYB, hMY⟩ : ∃ M, M = mayFace y.d := ⟨_, rfl⟩
  have HEX := Lib.hid hMX
  have HEY := Lib.hid hMY
  rw [← hMX] at HMX HNX
  rw [← hMY] at HMY HNX
  rw [← hR] at HNX ⊢
  clear hxe hye hR hMX hMY
  have HB0 := Lib.hid (bel2 w (.cells #[.string xn, .slice xa1 xl1.length xc1, .slice xa2 xl2.length xc2, .slice xa3 xl3.length xc3] 26) (.cells #[.string yn, .slice ya1 yl1.length yc1, .slice ya2 yl2.length yc2, .slice ya3 yl3.length yc3] 26))
  have hSP := (Sep.nil w).alloc2 #[.string xn, .slice xa1 xl1.length xc1, .slice xa2 xl2.length xc2, .slice xa3 xl3.length xc3] #[.string yn, .slice ya1 yl1.length yc1, .slice ya2 yl2.length yc2, .slice ya3 yl3.length yc3] 26 26
  have HGX := Lib.hid (hSP.at 1 rfl)
  have HGY := Lib.hid (hSP.at 0 rfl)
  clear hSP
  cases MX
  · skip
    obtain rfl : R = false := HNX.out (fun q => by cases q.1)
    go_enter Try.func9, Try.ntmps9
    have fl1 : True := trivial
    have fl2 : True := trivial
    go_wp2_with (first | (have _f := fl1; refine load_sep (cs := #[.string xn, .slice xa1 xl1.length xc1, .slice xa2 xl2.length xc2, .slice xa3 xl3.length xc3]) rfl 26 (.tmp 2) rfl (Sep.one HGX.out) 0 rfl rfl Try.underlying26 rfl (by kernel_rfl) ?_; clear _f fl1) | (have _f := fl2; refine (HMX.out _ HB0.out).mono ?_; rintro e w1 ⟨rfl, hb⟩; have HB1 := Lib.hid (bel_then HB0.out hb); have HGX1 := Lib.hid (HGX.out.bel hb); have HGY1 := Lib.hid (HGY.out.bel hb); clear hb; clear _f fl2))
    go_ret
    exact ⟨rfl, HB1.out⟩
  cases MYB
  · skip
    obtain rfl : R = false := HNX.out (fun q => by cases q.2.1)
    go_enter Try.func9, Try.ntmps9
    have fl3 : True := trivial
    have fl4 : True := trivial
    have fl5 : True := trivial
    have fl6 : True := trivial
    go_wp2_with (first | (have _f := fl3; refine load_sep (cs := #[.string xn, .slice xa1 xl1.length xc1, .slice xa2 xl2.length xc2, .slice xa3 xl3.length xc3]) rfl 26 (.tmp 2) rfl (Sep.one HGX.out) 0 rfl rfl Try.underlying26 rfl (by kernel_rfl) ?_; clear _f fl3) | (have _f := fl4; refine (HMX.out _ HB0.out).mono ?_; rintro e w2 ⟨rfl, hb⟩; have HB2 := Lib.hid (bel_then HB0.out hb); have HGX2 := Lib.hid (HGX.out.bel hb); have HGY2 := Lib.hid (HGY.out.bel hb); clear hb; clear _f fl4) | (have _f := fl5; refine guard_off (by kernel_rfl) ?_; refine load_sep (cs := #[.string yn, .slice ya1 yl1.length yc1, .slice ya2 yl2.length yc2, .slice ya3 yl3.length yc3]) rfl 26 (.tmp 3) rfl (Sep.one HGY2.out) 0 rfl rfl Try.underlying26 rfl (by kernel_rfl) ?_; clear _f fl5) | (have _f := fl6; refine (HMY.out _ HB2.out).mono ?_; rintro e w3 ⟨rfl, hb⟩; have HB3 := Lib.hid (bel_then HB2.out hb); have HGX3 := Lib.hid (HGX2.out.bel hb); have HGY3 := Lib.hid (HGY2.out.bel hb); have cx0 := (HGX3.out.cell 0).trans (show _ = some (.string xn) from rfl); have cx3 := (HGX3.out.cell 3).trans (show _ = some (.slice xa3 xl3.length xc3) from rfl); have cy0 := (HGY3.out.cell 0).trans (show _ = some (.string yn) from rfl); have cy3 := (HGY3.out.cell 3).trans (show _ = some (.slice ya3 yl3.length yc3) from rfl); clear hb; clear _f fl6))
    go_ret
    exact ⟨rfl, HB3.out⟩
  by_cases hn : xn = yn
  rotate_left
  · have q1 := str_other hn
    have HNE := Lib.hid hn
    clear hn
    obtain rfl : R = false := HNX.out (fun q => HNE.out (by have := q.2.2.1; rwa [HNN.out.1, HNN.out.2.1] at this))
    go_enter Try.func9, Try.ntmps9
    have fl7 : True := trivial
    have fl8 : True := trivial
    have fl9 : True := trivial
    have fl10 : True := trivial
    go_wp2_with (first | (have _f := fl7; refine load_sep (cs := #[.string xn, .slice xa1 xl1.length xc1, .slice xa2 xl2.length xc2, .slice xa3 xl3.length xc3]) rfl 26 (.tmp 2) rfl (Sep.one HGX.out) 0 rfl rfl Try.underlying26 rfl (by kernel_rfl) ?_; clear _f fl7) | (have _f := fl8; refine (HMX.out _ HB0.out).mono ?_; rintro e w4 ⟨rfl, hb⟩; have HB4 := Lib.hid (bel_then HB0.out hb); have HGX4 := Lib.hid (HGX.out.bel hb); have HGY4 := Lib.hid (HGY.out.bel hb); clear hb; clear _f fl8) | (have _f := fl9; refine guard_off (by kernel_rfl) ?_; refine load_sep (cs := #[.string yn, .slice ya1 yl1.length yc1, .slice ya2 yl2.length yc2, .slice ya3 yl3.length yc3]) rfl 26 (.tmp 3) rfl (Sep.one HGY4.out) 0 rfl rfl Try.underlying26 rfl (by kernel_rfl) ?_; clear _f fl9) | (have _f := fl10; refine (HMY.out _ HB4.out).mono ?_; rintro e w5 ⟨rfl, hb⟩; have HB5 := Lib.hid (bel_then HB4.out hb); have HGX5 := Lib.hid (HGX4.out.bel hb); have HGY5 := Lib.hid (HGY4.out.bel hb); have cx0 := (HGX5.out.cell 0).trans (show _ = some (.string xn) from rfl); have cx3 := (HGX5.out.cell 3).trans (show _ = some (.slice xa3 xl3.length xc3) from rfl); have cy0 := (HGY5.out.cell 0).trans (show _ = some (.string yn) from rfl); have cy3 := (HGY5.out.cell 3).trans (show _ = some (.slice ya3 yl3.length yc3) from rfl); clear hb; clear _f fl10))
    go_ret
    exact ⟨rfl, HB5.out⟩
  have q1 := str_same hn
  have HNQ := Lib.hid hn
  clear hn
  by_cases hl : xl3.length = yl3.length
  rotate_left
  · have q2 : ((xl3.length : Int) == yl3.length) = false := by rw [beq_eq_false_iff_ne]; omega
    have q3 : (xl3.length == yl3.length) = false := by rw [beq_eq_false_iff_ne]; exact hl
    have q4 : ((xl3.length : Int) != yl3.length) = true := by rw [bne, q2]; rfl
    have q5 : (xl3.length != yl3.length) = true := by rw [bne, q3]; rfl
    have HNE := Lib.hid hl
    clear hl
    obtain rfl : R = false := HNX.out (fun q => HNE.out (by have := q.2.2.2; rwa [HNN.out.2.2.1, HNN.out.2.2.2] at this))
    go_enter Try.func9, Try.ntmps9
    have fl11 : True := trivial
    have fl12 : True := trivial
    have fl13 : True := trivial
    have fl14 : True := trivial
    go_wp2_with (first | (have _f := fl11; refine load_sep (cs := #[.string xn, .slice xa1 xl1.length xc1, .slice xa2 xl2.length xc2, .slice xa3 xl3.length xc3]) rfl 26 (.tmp 2) rfl (Sep.one HGX.out) 0 rfl rfl Try.underlying26 rfl (by kernel_rfl) ?_; clear _f fl11) | (have _f := fl12; refine (HMX.out _ HB0.out).mono ?_; rintro e w6 ⟨rfl, hb⟩; have HB6 := Lib.hid (bel_then HB0.out hb); have HGX6 := Lib.hid (HGX.out.bel hb); have HGY6 := Lib.hid (HGY.out.bel hb); clear hb; clear _f fl12) | (have _f := fl13; refine guard_off (by kernel_rfl) ?_; refine load_sep (cs := #[.string yn, .slice ya1 yl1.length yc1, .slice ya2 yl2.length yc2, .slice ya3 yl3.length yc3]) rfl 26 (.tmp 3) rfl (Sep.one HGY6.out) 0 rfl rfl Try.underlying26 rfl (by kernel_rfl) ?_; clear _f fl13) | (have _f := fl14; refine (HMY.out _ HB6.out).mono ?_; rintro e w7 ⟨rfl, hb⟩; have HB7 := Lib.hid (bel_then HB6.out hb); have HGX7 := Lib.hid (HGX6.out.bel hb); have HGY7 := Lib.hid (HGY6.out.bel hb); have cx0 := (HGX7.out.cell 0).trans (show _ = some (.string xn) from rfl); have cx3 := (HGX7.out.cell 3).trans (show _ = some (.slice xa3 xl3.length xc3) from rfl); have cy0 := (HGY7.out.cell 0).trans (show _ = some (.string yn) from rfl); have cy3 := (HGY7.out.cell 3).trans (show _ = some (.slice ya3 yl3.length yc3) from rfl); clear hb; clear _f fl14))
    go_ret
    exact ⟨rfl, HB7.out⟩
  have q2 : ((xl3.length : Int) == yl3.length) = true := by rw [beq_iff_eq]; omega
  have q3 : (xl3.length == yl3.length) = true := by rw [beq_iff_eq]; exact hl
  have q4 : ((xl3.length : Int) != yl3.length) = false := by rw [bne, q2]; rfl
  have q5 : (xl3.length != yl3.length) = false := by rw [bne, q3]; rfl
  have HLQ := Lib.hid hl
  clear hl HNX
  have hmm := @run_makeMap Try.prog
  go_enter Try.func9, Try.ntmps9
  have fl15 : True := trivial
  have fl16 : True := trivial
  have fl17 : True := trivial
  have fl18 : True := trivial
  have fl19 : True := trivial
  have fl20 : True := trivial
  go_wp2_with (first | (have _f := fl15; refine load_sep (cs := #[.string xn, .slice xa1 xl1.length xc1, .slice xa2 xl2.length xc2, .slice xa3 xl3.length xc3]) rfl 26 (.tmp 2) rfl (Sep.one HGX.out) 0 rfl rfl Try.underlying26 rfl (by kernel_rfl) ?_; clear _f fl15) | (have _f := fl16; refine (HMX.out _ HB0.out).mono ?_; rintro e w8 ⟨rfl, hb⟩; have HB8 := Lib.hid (bel_then HB0.out hb); have HGX8 := Lib.hid (HGX.out.bel hb); have HGY8 := Lib.hid (HGY.out.bel hb); clear hb; clear _f fl16) | (have _f := fl17; refine guard_off (by kernel_rfl) ?_; refine load_sep (cs := #[.string yn, .slice ya1 yl1.length yc1, .slice ya2 yl2.length yc2, .slice ya3 yl3.length yc3]) rfl 26 (.tmp 3) rfl (Sep.one HGY8.out) 0 rfl rfl Try.underlying26 rfl (by kernel_rfl) ?_; clear _f fl17) | (have _f := fl18; refine (HMY.out _ HB8.out).mono ?_; rintro e w9 ⟨rfl, hb⟩; have HB9 := Lib.hid (bel_then HB8.out hb); have HGX9 := Lib.hid (HGX8.out.bel hb); have HGY9 := Lib.hid (HGY8.out.bel hb); have cx0 := (HGX9.out.cell 0).trans (show _ = some (.string xn) from rfl); have cx3 := (HGX9.out.cell 3).trans (show _ = some (.slice xa3 xl3.length xc3) from rfl); have cy0 := (HGY9.out.cell 0).trans (show _ = some (.string yn) from rfl); have cy3 := (HGY9.out.cell 3).trans (show _ = some (.slice ya3 yl3.length yc3) from rfl); clear hb; clear _f fl18) | (have _f := fl19; refine load_sep (cs := #[.string xn, .slice xa1 xl1.length xc1, .slice xa2 xl2.length xc2, .slice xa3 xl3.length xc3]) rfl 26 (.tmp 2) rfl (Sep.one HGX9.out) 0 rfl rfl Try.underlying26 rfl (by kernel_rfl) ?_; clear _f fl19) | (have _f := fl20; refine load_sep (cs := #[.string yn, .slice ya1 yl1.length yc1, .slice ya2 yl2.length yc2, .slice ya3 yl3.length yc3]) rfl 26 (.tmp 3) rfl (Sep.one HGY9.out) 0 rfl rfl Try.underlying26 rfl (by kernel_rfl) ?_; have cxq := ((HGX9.out.bel (bel2 w9 (.map #[] 0) (.cells #[.string xn, .slice xa1 xl1.length xc1, .slice xa2 xl2.length xc2, .slice xa3 xl3.length xc3, .string yn, .slice ya1 yl1.length yc1, .slice ya2 yl2.length yc2, .slice ya3 yl3.length yc3, .map (some w9.heap.size)] 57))).cell 3).trans (show _ = some (.slice xa3 xl3.length xc3) from rfl); clear _f fl20))
  have HPC : Hid (pairC x y w9.heap.size = #[.string xn, .slice xa1 xl1.length xc1, .slice xa2 xl2.length xc2, .slice xa3 xl3.length xc3, .string yn, .slice ya1 yl1.length yc1, .slice ya2 yl2.length yc2, .slice ya3 yl3.length yc3, .map (some w9.heap.size)]) := Lib.hid (by rw [HXE.out, HYE.out]; rfl)
  have hb2 : Below w9.heap.size w9 ((w9.alloc (.map #[] 0)).alloc (.cells #[.string xn, .slice xa1 xl1.length xc1, .slice xa2 xl2.length xc2, .slice xa3 xl3.length xc3, .string yn, .slice ya1 yl1.length yc1, .slice ya2 yl2.length yc2, .slice ya3 yl3.length yc3, .map (some w9.heap.size)] 57)) := bel2 w9 _ _
  have HP0 : Hid (Pr x y w ((w9.alloc (.map #[] 0)).alloc (.cells #[.string xn, .slice xa1 xl1.length xc1, .slice xa2 xl2.length xc2, .slice xa3 xl3.length xc3, .string yn, .slice ya1 yl1.length yc1, .slice ya2 yl2.length yc2, .slice ya3 yl3.length yc3, .map (some w9.heap.size)] 57)) (w9.heap.size + 1) w9.heap.size []) := Lib.hid ⟨bel_then HB9.out hb2, by rw [HPC.out]; have := At.new (w9.alloc (.map #[] 0)) #[.string xn, .slice xa1 xl1.length xc1, .slice xa2 xl2.length xc2, .slice xa3 xl3.length xc3, .string yn, .slice ya1 yl1.length yc1, .slice ya2 yl2.length yc2, .slice ya3 yl3.length yc3, .map (some w9.heap.size)] 57; rwa [show (w9.alloc (.map #[] 0)).heap.size = w9.heap.size + 1 by simp] at this, by have := HB9.out.size; omega, HB9.out.size, ((SetMap.made w9 Try.prog 99).bel (bel1 _ _)).iff (fun z => ⟨fun h => h.elim, fun ⟨_, _, h, _⟩ => by simp at h⟩)⟩
  have HGY0 := Lib.hid (HGY9.out.bel hb2)
  clear hb2 hmm HGX9 HPC q1 q2 q3 q4 q5 cx0 cx3 cy0 cy3 cxq
  have HMA : Hid (MeansC x y w (w9.heap.size + 1) w9.heap.size (x.d.types.length * y.d.types.length + 1)) := Lib.hid (means_all x y w _ _ HX.out HY.out HEX.out.symm HEY.out.symm _)
  obtain ⟨bo, oo, hat, hcl⟩ := HX.out.objs.at'
  have hle := HX.out.objs.row.le
  have HOK := Lib.hid HX.out.objs.all
  rw [HXE.out] at hat hcl hle HOK
  dsimp only at hat hcl hle HOK
  have HAT := Lib.hid hat
  have HCL := Lib.hid hcl
  have HLE := Lib.hid hle
  clear hat hcl hle
  have HFN : Hid (∀ (W : World) (n : ByteArray), Below w.heap.size w W → Calls Try.prog 11 #[.agg #[.string yn, .slice ya1 yl1.length yc1, .slice ya2 yl2.length yc2, .slice ya3 yl3.length yc3], .string n] W fun e w' => FoundF y n e w' ∧ Below W.heap.size W w') := Lib.hid (fun W n k => by rw [← HYV.out]; exact find_walk y n W (HY.out.bel k) (fun q hq => may_objs_params HEY.out.symm (show q.d ∈ y.objs.l.map FO.d from List.mem_map_of_mem hq)))
  have HSN := Lib.hid (fun w' : World => Sep.nil w')
  go_loopw [42] (fun i wr => ∃ (k : Nat) (T : List (Nat × Nat)), k ≤ xl3.length ∧ i = .int .i64 k ∧ Pr x y w wr (w9.heap.size + 1) w9.heap.size T ∧ Tk x.d y.d T ∧ Holds x.d y.d [] T ∧ ObjsTo x y T k ∧ At wr (w.heap.size + 1) #[.string yn, .slice ya1 yl1.length yc1, .slice ya2 yl2.length yc2, .slice ya3 yl3.length yc3] 26) (fun i _ => xl3.length - (intOf i).toNat)
  case atStart => exact ⟨0, [], Nat.zero_le _, rfl, HP0.out, ⟨List.nodup_nil, fun p h => (by cases h)⟩, fun p h => (by cases h), fun j o h => (by omega), HGY0.out⟩
  case round =>
    clear HP0 HGY0
    obtain ⟨k, T, hk, rfl, hp, htk, hho, hob, hgy⟩ := hrel
    have HP := Lib.hid hp
    have HTK := Lib.hid htk
    have HHO := Lib.hid hho
    have HOB := Lib.hid hob
    have HGYr := Lib.hid hgy
    clear hp htk hho hob hgy
    by_cases hlt : k < xl3.length
    rotate_left
    · have HV : Hid (R = true) := Lib.hid (by rw [HR.out]; exact shows_done HEX.out.symm HEY.out.symm (by rw [HNN.out.1, HNN.out.2.1]; exact HNQ.out) (by rw [HNN.out.2.2.1, HNN.out.2.2.2]; exact HLQ.out) HHO.out (by rw [HNN.out.2.2.1]; omega) HOB.out)
      clear hk
      go_wp2_with (fail)
      go_ret
      rw [HV.out]
      exact ⟨rfl, HP.out.bel⟩
    obtain ⟨⟨cl, on, ⟨bm, bi⟩, va, ⟨pa, pc, pl⟩⟩, hy⟩ := get_lt hlt
    obtain ⟨rfl, hb⟩ := HAT.out (by omega)
    have HCO : Hid (∀ (q : Nat) (v : Value), ([.int .i64 cl, .string on, .int .i64 bm, .int .i64 bi, .int .u32 va, .slice pa pl.length pc] : List Value)[q]? = some v → wr.cell? ⟨bo, oo + k * 6 + q, none⟩ = some v) := Lib.hid (fun q v hv => (HP.out.bel.cell (p := ⟨bo, oo + k * 6 + q, none⟩) hb).trans (HCL.out k _ hy q v hv))
    have HLT := Lib.hid hlt
    have HME : Hid ((⟨cl, on, ⟨bm, bi⟩, va, ⟨pa, pc, pl⟩⟩ : FO) ∈ x.objs.l) := Lib.hid (by rw [HNN.out.2.2.1]; exact List.mem_of_getElem? hy)
    have HKY : Hid (x.objs.l[k]? = some ⟨cl, on, ⟨bm, bi⟩, va, ⟨pa, pc, pl⟩⟩) := Lib.hid (by rw [HNN.out.2.2.1]; exact hy)
    have HPR : Hid (Rows prmD w ⟨pa, pc, pl⟩) := Lib.hid (HOK.out _ (List.mem_of_getElem? hy)).2.2.2.2
    have HLO := Lib.hid (leads_obj HEX.out.symm (show FO.d ⟨cl, on, ⟨bm, bi⟩, va, ⟨pa, pc, pl⟩⟩ ∈ x.objs.l.map FO.d from List.mem_map_of_mem HME.out))
    have HPL : Hid (pl.length ≤ 1000000) := Lib.hid (may_objs_params HEX.out.symm (show FO.d ⟨cl, on, ⟨bm, bi⟩, va, ⟨pa, pc, pl⟩⟩ ∈ x.objs.l.map FO.d from List.mem_map_of_mem HME.out))
    have kl : (k : Int) < xl3.length := by omega
    have kc : (k : Int) < xc3 := by have := HLE.out; omega
    have kc0 : ¬ xc3 = 0 := by omega
    clear hy hb
    have fl21 : True := trivial
    have fl22 : True := trivial
    have fl23 : True := trivial
    have fl24 : True := trivial
    have fl25 : True := trivial
    have fl26 : True := trivial
    have fl27 : True := trivial
    have fl28 : True := trivial
    have fl29 : True := trivial
    have fl30 : True := trivial
    have fl31 : True := trivial
    have HLQ2 : Hid (∀ (q : FO) (t : Sl Prm) (n : ByteArray), q ∈ y.objs.l ∧ q.name = n ∧ t.l = q.params.l → Leads y.d q.base ∧ (∀ p ∈ t.l, Leads y.d p.base) ∧ t.l.length ≤ 1000000) := Lib.hid (fun q t n h => by have h1 := leads_obj HEY.out.symm (show FO.d q ∈ y.objs.l.map FO.d from List.mem_map_of_mem h.1); exact ⟨h1.1, by rw [h.2.2]; exact h1.2, by rw [h.2.2]; exact may_objs_params HEY.out.symm (show q.d ∈ y.objs.l.map FO.d from List.mem_map_of_mem h.1)⟩)
    go_wp2_with (first | (have _f := fl21; refine wpList_load_mid rfl 37 (.tmp 44) rfl bo (oo + k * 6) rfl [.int .i64 cl, .string on, .int .i64 bm, .int .i64 bi, .int .u32 va, .slice pa pl.length pc] _ HCO.out Try.underlying37 rfl (by kernel_rfl) ?_; clear _f fl21) | (have _f := fl22; refine alloc_sep rfl 37 rfl (HSN.out _) (z := .agg #[.int .i64 0, .string ⟨#[]⟩, .int .i64 0, .int .i64 0, .int .u32 0, .slice none 0 0]) (cs := #[.int .i64 0, .string ⟨#[]⟩, .int .i64 0, .int .i64 0, .int .u32 0, .slice none 0 0]) (by kernel_rfl) rfl ?_; intro wc S' b' s'; have HSwc := Lib.hid S'; have HBwc := Lib.hid b'; clear S' b' s'; clear _f fl22) | (have _f := fl23; refine store_sep (cells := #[.int .i64 cl, .string on, .int .i64 bm, .int .i64 bi, .int .u32 va, .slice pa pl.length pc]) rfl 37 (.tmp 7) (.tmp 45) rfl HSwc.out 0 rfl rfl rfl (by kernel_rfl) rfl rfl ?_; intro we S' k' s'; have HGwe := Lib.hid (S'.at 0 rfl); have HBwe : Hid (Below wr.heap.size wr we) := Lib.hid (((Ke.below (· = wr.heap.size) HBwc.out).trans k').toBelow (fun i hi e => absurd e (Nat.ne_of_lt hi))); have HGYe := Lib.hid (HGYr.out.bel HBwe.out); have HPe := Lib.hid (HP.out.on HBwe.out); have y1 := (HGwe.out.cell 1).trans (show _ = some (.string on) from rfl); clear S' k' s'; clear _f fl23) | (have _f := fl24; refine load_sep (cs := #[.string yn, .slice ya1 yl1.length yc1, .slice ya2 yl2.length yc2, .slice ya3 yl3.length yc3]) rfl 26 (.tmp 3) rfl (Sep.one HGYe.out) 0 rfl rfl Try.underlying26 rfl (by kernel_rfl) ?_; clear _f fl24) | (have _f := fl25; refine (HFN.out _ on HPe.out.bel).mono ?_; rintro e w3 ⟨hf, hb⟩; have HP3 := Lib.hid (HPe.out.on hb); have HGY3 := Lib.hid (HGYe.out.bel hb); have HGO3 := Lib.hid (HGwe.out.bel hb); have HB3 := Lib.hid (bel_then HBwe.out hb); clear hb y1; rcases found_cases hf with ⟨dl, qn, em, ei, ua, qa, qc, ql, ta, tc, tl, hq, hqn, htl, hrt, rfl⟩ | ⟨hno, rfl⟩ <;> first | (have HQ := Lib.hid (And.intro hq (And.intro hqn htl)); have HRT := Lib.hid hrt; clear hq hqn htl hrt hf) | (have HNO := Lib.hid hno; clear hno hf); clear _f fl25) | (have _f := fl26; refine alloc_sep rfl 37 rfl (HSN.out _) (z := .agg #[.int .i64 0, .string ⟨#[]⟩, .int .i64 0, .int .i64 0, .int .u32 0, .slice none 0 0]) (cs := #[.int .i64 0, .string ⟨#[]⟩, .int .i64 0, .int .i64 0, .int .u32 0, .slice none 0 0]) (by kernel_rfl) rfl ?_; intro wd S' b' s'; have HSwd := Lib.hid S'; have HBwd := Lib.hid b'; clear S' b' s'; clear _f fl26) | (have _f := fl27; have _g := HRT; refine store_sep (cells := #[.int .i64 dl, .string qn, .int .i64 em, .int .i64 ei, .int .u32 ua, .slice ta tl.length tc]) rfl 37 (.tmp 8) (.tmp 51) rfl HSwd.out 0 rfl rfl rfl (by kernel_rfl) rfl rfl ?_; intro wf S' k' s'; have HGwf := Lib.hid (S'.at 0 rfl); have HBwf : Hid (Below w3.heap.size w3 wf) := Lib.hid (((Ke.below (· = w3.heap.size) HBwd.out).trans k').toBelow (fun i hi e => absurd e (Nat.ne_of_lt hi))); have HGO4 := Lib.hid (HGO3.out.bel HBwf.out); have HP4 := Lib.hid (HP3.out.on HBwf.out); have HGY4 := Lib.hid (HGY3.out.bel HBwf.out); have HRT4 := Lib.hid (HRT.out.bel HBwf.out); have HB4 := Lib.hid (bel_then HB3.out HBwf.out); clear S' k' s'; clear _f fl27) | (have _f := fl28; have _g := HNO; refine store_sep (cells := #[.int .i64 0, .string ⟨#[]⟩, .int .i64 0, .int .i64 0, .int .u32 0, .slice none 0 0]) rfl 37 (.tmp 8) (.tmp 51) rfl HSwd.out 0 rfl rfl rfl (by kernel_rfl) rfl rfl ?_; intro wf S' k' s'; have HGwf := Lib.hid (S'.at 0 rfl); have HBwf : Hid (Below w3.heap.size w3 wf) := Lib.hid (((Ke.below (· = w3.heap.size) HBwd.out).trans k').toBelow (fun i hi e => absurd e (Nat.ne_of_lt hi))); have HB4 := Lib.hid (bel_then HB3.out HBwf.out); clear S' k' s'; clear _f fl28) | (have _f := fl29; refine guard_off (by kernel_rfl) ?_; refine load_sep (cs := #[.int .i64 cl, .string on, .int .i64 bm, .int .i64 bi, .int .u32 va, .slice pa pl.length pc]) rfl 37 (.tmp 7) rfl (Sep.one HGO4.out) 0 rfl rfl Try.underlying37 rfl (by kernel_rfl) ?_; clear _f fl29) | (have _f := fl30; refine guard_off (by kernel_rfl) ?_; refine load_sep (cs := #[.int .i64 dl, .string qn, .int .i64 em, .int .i64 ei, .int .u32 ua, .slice ta tl.length tc]) rfl 37 (.tmp 8) rfl (Sep.one HGwf.out) 0 rfl rfl Try.underlying37 rfl (by kernel_rfl) ?_; clear _f fl30) | (have _f := fl31; refine (alike_walk (o := ⟨cl, on, ⟨bm, bi⟩, va, ⟨pa, pc, pl⟩⟩) (q := ⟨dl, qn, ⟨em, ei⟩, ua, ⟨ta, tc, tl⟩⟩) HMA.out HTK.out (by omega) HLO.out.1 HLO.out.2 (HLQ2.out ⟨dl, qn, ⟨em, ei⟩, ua, ⟨qa, qc, ql⟩⟩ ⟨ta, tc, tl⟩ on HQ.out).1 (HLQ2.out ⟨dl, qn, ⟨em, ei⟩, ua, ⟨qa, qc, ql⟩⟩ ⟨ta, tc, tl⟩ on HQ.out).2.1 wf HP4.out (HPR.out.bel HP4.out.bel) HRT4.out HPL.out (HLQ2.out ⟨dl, qn, ⟨em, ei⟩, ua, ⟨qa, qc, ql⟩⟩ ⟨ta, tc, tl⟩ on HQ.out).2.2).mono ?_; rintro e w5 ⟨ok, T', rfl, hg, ht, hf, hp, hk⟩; have HG5 := Lib.hid hg; have HTR := Lib.hid ht; have HFA := Lib.hid hf; have HP5 := Lib.hid hp; have HGY5 := Lib.hid (HGY4.out.ke hk (HP4.out.nm HGY4.out)); clear hg ht hf hp hk; cases ok; clear _f fl31))
    · have HV : Hid (R = false) := Lib.hid (by
        rw [HR.out]
        obtain ⟨h1, h2, h3⟩ := HQ.out
        refine shows_unlike HME.out h1 h2 ?_
        have := HFA.out (by trivial)
        have h3 : tl = ql := h3
        rwa [show FO.d ⟨dl, qn, ⟨em, ei⟩, ua, ⟨ta, tc, tl⟩⟩ = FO.d ⟨dl, qn, ⟨em, ei⟩, ua, ⟨qa, qc, ql⟩⟩ from by unfold FO.d; rw [h3]] at this)
      go_ret
      rw [HV.out]
      exact ⟨rfl, HP5.out.bel⟩
    · have HNX : Hid (Tk x.d y.d T' ∧ Holds x.d y.d [] T' ∧ ObjsTo x y T' (k + 1)) := Lib.hid (by
        obtain ⟨a1, a2⟩ := HTR.out (by trivial)
        obtain ⟨h1, h2, h3⟩ := HQ.out
        refine ⟨HG5.out.tk, HHO.out.trans HG5.out a2, fun j o hj ho => ?_⟩
        rcases Nat.lt_or_ge j k with h | h
        · obtain ⟨q, b1, b2, b3⟩ := HOB.out j o h ho
          exact ⟨q, b1, b2, sameT_mono (inT_mono HG5.out) b3⟩
        · obtain rfl : j = k := by omega
          rw [HKY.out] at ho
          obtain rfl := Option.some.inj ho
          refine ⟨_, h1, h2, ?_⟩
          have h3 : tl = ql := h3
          rwa [show FO.d ⟨dl, qn, ⟨em, ei⟩, ua, ⟨ta, tc, tl⟩⟩ = FO.d ⟨dl, qn, ⟨em, ei⟩, ua, ⟨qa, qc, ql⟩⟩ from by unfold FO.d; rw [h3]] at a1)
      go_roundw
      case rel => exact ⟨k + 1, T', HLT.out, by go_num, HP5.out, HNX.out.1, HNX.out.2.1, HNX.out.2.2, HGY5.out⟩
      case measure => simp [intOf]; have := HLT.out; omega
    · have HV : Hid (R = false) := Lib.hid (by rw [HR.out]; exact shows_none HME.out HNO.out)
      go_ret
      rw [HV.out]
      exact ⟨rfl, HP.out.bel.trans (HB4.out.mono HP.out.bel.size)⟩
end Go.Proofs.Ytgcjdkgeiopllaa
