/- Contract: may a type be (symfile.mayType). Printed by bin/gen_symtype.py. -/
import Derived.Test.YtfnibpkojhgflaaFaceA
import Derived.Deep.DeepCutAuto
import Derived.Laws.EntriesVeiled
namespace Go.Proofs.Ytfnibpkojhgflaa
set_option linter.unusedVariables false
set_option linter.unusedSimpArgs false
open Go.RowKit

/-- the closure that holds a field's name against another one's. -/
theorem fieldNamed_walk (x : Fld) (g : Nat) (xn : ByteArray) (w : World) (hg : w.cell? ⟨g, 0, none⟩ = some (.string xn)) (hl : g < w.heap.size) :
    Calls Try.prog 58 #[.agg (fldD.cells x).toArray, .pointer (some ⟨g, 0, none⟩)] w fun e w' => e = .returned (.bool (decide (x.name = xn))) ∧ Below w.heap.size w w' := by
  obtain ⟨yn, yo, ⟨ym, yi⟩⟩ := x
  show Calls _ _ #[.agg #[.string yn, .int .i64 yo, .int .i64 ym, .int .i64 yi], .pointer (some ⟨g, 0, none⟩)] w _
  have hne : ¬ g = w.heap.size := by omega
  have hne2 : ¬ w.heap.size = g := by omega
  have HQ : Hid ((yn.toList == xn.toList) = decide (yn = xn)) := Lib.hid (by
    by_cases h : yn = xn
    · rw [str_same h, decide_eq_true h]
    · rw [str_other h, decide_eq_false h])
  have hc : (w.alloc (.cells #[.string yn, .int .i64 yo, .int .i64 ym, .int .i64 yi] 37)).cell? ⟨g, 0, none⟩ = some (.string xn) := ((bel1 w (.cells #[.string yn, .int .i64 yo, .int .i64 ym, .int .i64 yi] 37)).cell hl).trans hg
  go_enter Try.func58, Try.ntmps58
  go_wp2
  go_ret
  exact ⟨ret_bool HQ.out, bel1 _ _⟩

/-- is there a field of that name among the first ones. -/
theorem hasFld (b o c : Nat) (l : List Fld) (k g : Nat) (xn : ByteArray) (w W : World) (hm : Rows fldD w ⟨some ⟨b, o, none⟩, c, l.take k⟩) (hk : (l.take k).length = k) (hb : Below w.heap.size w W) (hg : W.cell? ⟨g, 0, none⟩ = some (.string xn)) (hl : g < W.heap.size) :
    Calls Try.prog 57 #[.slice (some ⟨b, o, none⟩) k c, .func (.func 58) #[] #[.pointer (some ⟨g, 0, none⟩)]] W fun e w' => e = .returned (.bool ((l.take k).any (fun y => decide (y.name = xn)))) ∧ Below W.heap.size W w' := by
  have := containsFld_walk ⟨some ⟨b, o, none⟩, c, l.take k⟩ (.pointer (some ⟨g, 0, none⟩)) (fun y => decide (y.name = xn)) W (hm.bel hb) (fun x V _ hV => fieldNamed_walk x g xn V ((hV.cell hl).trans hg) (Nat.lt_of_lt_of_le hl hV.size))
  unfold Sl.val at this
  dsimp only at this
  rw [hk] at this
  exact this

set_option maxRecDepth 100000 in
set_option maxHeartbeats 16000000 in
theorem mayType_walk (f : Fc) (t : FT) (w : World) (h : f.Rd w) (ht : ftD.ok w t) (hn2 : f.types.l.length ≤ 100000000000) :
    Calls Try.prog 24 #[f.val, .agg (ftD.cells t).toArray] w fun e' w' => e' = .returned (.bool (mayTypeB f.d.env t.d)) ∧ Below w.heap.size w w' := by
  have HCL : Hid (∀ (r : Rf) (W : World), r.ok → Below w.heap.size w W → Calls Try.prog 55 #[f.val, r.val] W fun e' w' => e' = .returned (.bool (closedB f.d.env r)) ∧ Below W.heap.size W w') := Lib.hid (fun r W hr k => closed_walk f r W (h.bel k) hr hn2)
  obtain ⟨q1, q2, q3, q4, q5⟩ := ht
  obtain ⟨e, he⟩ : ∃ e, e = f.d.env := ⟨_, rfl⟩
  rw [← he] at HCL ⊢
  clear he h hn2
  obtain ⟨nm, ⟨a1, c1, l1⟩, ⟨a2, c2, l2⟩, ⟨a3, c3, l3⟩⟩ := f
  obtain ⟨fo, le, si, ⟨bm, bi⟩, ⟨fa, fcc, fl⟩⟩ := t
  show Calls _ _ #[.agg #[.string nm, .slice a1 l1.length c1, .slice a2 l2.length c2, .slice a3 l3.length c3], .agg #[.int .i64 fo, .int .i64 le, .int .i64 si, .int .i64 bm, .int .i64 bi, .slice fa fl.length fcc]] w fun e' w' => e' = .returned (.bool (mayTypeB e ⟨fo, le, si, ⟨bm, bi⟩, fl⟩)) ∧ _
  have HCF : Hid (∀ (m i : Int) (W : World), Rf.ok ⟨m, i⟩ → Below w.heap.size w W → Calls Try.prog 55 #[.agg #[.string nm, .slice a1 l1.length c1, .slice a2 l2.length c2, .slice a3 l3.length c3], .agg #[.int .i64 m, .int .i64 i]] W fun e' w' => e' = .returned (.bool (closedB e ⟨m, i⟩)) ∧ Below W.heap.size W w') := Lib.hid (fun m i W hr k => HCL.out ⟨m, i⟩ W hr k)
  clear HCL
  dsimp only at q1 q2 q3 q4 q5
  have hfl := q5.len
  dsimp only at hfl
  have HRF : Hid (Rows fldD w ⟨fa, fcc, fl⟩) := Lib.hid q5
  have HRB : Hid (Rf.ok ⟨bm, bi⟩) := Lib.hid q4
  clear q5
  obtain ⟨q1, q1'⟩ := q1
  obtain ⟨q2, q2'⟩ := q2
  obtain ⟨q3, q3'⟩ := q3
  obtain ⟨⟨q4, q4'⟩, q5, q5'⟩ := q4
  dsimp only at q4 q4' q5 q5'
  have HB0 : Hid (Below w.heap.size w ((w.alloc (.cells #[.string nm, .slice a1 l1.length c1, .slice a2 l2.length c2, .slice a3 l3.length c3] 26)).alloc (.cells #[.int .i64 fo, .int .i64 le, .int .i64 si, .int .i64 bm, .int .i64 bi, .slice fa fl.length fcc] 34))) := Lib.hid (bel2 w _ _)
  have HGF : Hid (At ((w.alloc (.cells #[.string nm, .slice a1 l1.length c1, .slice a2 l2.length c2, .slice a3 l3.length c3] 26)).alloc (.cells #[.int .i64 fo, .int .i64 le, .int .i64 si, .int .i64 bm, .int .i64 bi, .slice fa fl.length fcc] 34)) w.heap.size #[.string nm, .slice a1 l1.length c1, .slice a2 l2.length c2, .slice a3 l3.length c3] 26) := Lib.hid ((At.new w _ 26).old _)
  have HGT : Hid (At ((w.alloc (.cells #[.string nm, .slice a1 l1.length c1, .slice a2 l2.length c2, .slice a3 l3.length c3] 26)).alloc (.cells #[.int .i64 fo, .int .i64 le, .int .i64 si, .int .i64 bm, .int .i64 bi, .slice fa fl.length fcc] 34)) (w.heap.size + 1) #[.int .i64 fo, .int .i64 le, .int .i64 si, .int .i64 bm, .int .i64 bi, .slice fa fl.length fcc] 34) := Lib.hid (by have := At.new (w.alloc (.cells #[.string nm, .slice a1 l1.length c1, .slice a2 l2.length c2, .slice a3 l3.length c3] 26)) #[.int .i64 fo, .int .i64 le, .int .i64 si, .int .i64 bm, .int .i64 bi, .slice fa fl.length fcc] 34; rwa [show (w.alloc (.cells #[.string nm, .slice a1 l1.length c1, .slice a2 l2.length c2, .slice a3 l3.length c3] 26)).heap.size = w.heap.size + 1 by simp] at this)
  obtain ⟨bb, hbb⟩ : ∃ bb, bb = decide (bareT ⟨fo, le, si, ⟨bm, bi⟩, fl⟩) := ⟨_, rfl⟩
  have HBB := Lib.hid hbb
  clear hbb
  have f1 : True := trivial
  have f2 : True := trivial
  have f3 : True := trivial
  have f4 : True := trivial
  have f5 : True := trivial
  have f6 : True := trivial
  have f7 : True := trivial
  have f8 : True := trivial
  have HSN := Lib.hid (fun w' : World => Sep.nil w')
  go_enter Try.func24, Try.ntmps24
  go_upto_region 1 with (fail)
  go_cut [5] (fun s wx => s = .bool bb ∧ wx = ((w.alloc (.cells #[.string nm, .slice a1 l1.length c1, .slice a2 l2.length c2, .slice a3 l3.length c3] 26)).alloc (.cells #[.int .i64 fo, .int .i64 le, .int .i64 si, .int .i64 bm, .int .i64 bi, .slice fa fl.length fcc] 34)))
  case first =>
    by_cases h1 : le = 0
    · by_cases h2 : si = 0
      · have H := Lib.hid (And.intro h1 h2)
        have d1 : (le == 0) = true := by rw [h1]; rfl
        have d2 : (si == 0) = true := by rw [h2]; rfl
        clear h1 h2
        go_wp2
        go_meet
        refine ⟨congrArg Value.bool ?_, rfl⟩
        have hh := H.out
        rw [HBB.out]
        by_cases h3 : fl.length = 0
        · rw [decide_eq_true (show bareT ⟨fo, le, si, ⟨bm, bi⟩, fl⟩ from And.intro hh.1 (And.intro hh.2 h3)), beq_iff_eq]; omega
        · rw [decide_eq_false (show ¬ bareT ⟨fo, le, si, ⟨bm, bi⟩, fl⟩ from fun q => h3 q.2.2), beq_eq_false_iff_ne]; omega
      · have H := Lib.hid h2
        have d1 : (le == 0) = true := by rw [h1]; rfl
        have d2 : (si == 0) = false := by rw [beq_eq_false_iff_ne]; exact h2
        clear h1 h2
        go_wp2
        go_meet
        refine ⟨congrArg Value.bool ?_, rfl⟩
        rw [HBB.out]; exact (decide_eq_false (fun q => H.out q.2.1)).symm
    · have H := Lib.hid h1
      have d1 : (le == 0) = false := by rw [beq_eq_false_iff_ne]; exact h1
      clear h1
      go_wp2
      go_meet
      refine ⟨congrArg Value.bool ?_, rfl⟩
      rw [HBB.out]; exact (decide_eq_false (fun q => H.out q.1)).symm
  case rest =>
    obtain ⟨rfl, rfl⟩ := hcut
    by_cases hf1 : fo = 1
    · subst hf1
      have HM := Lib.hid (may_arr (e := e) (t := ⟨1, le, si, ⟨bm, bi⟩, fl⟩) rfl)
      by_cases ha : arrHead ⟨1, le, si, ⟨bm, bi⟩, fl⟩
      · have HR : Hid (mayTypeB e ⟨1, le, si, ⟨bm, bi⟩, fl⟩ = closedB e ⟨bm, bi⟩) := Lib.hid (by rw [HM.out, decide_eq_true ha]; rfl)
        obtain ⟨x1, x2, x3, x4, x5⟩ := ha
        dsimp only at x1 x2 x3 x4 x5
        have d1 : decide (1 ≤ le) = true := decide_eq_true x1
        have d2 : decide (le ≤ 65535) = true := decide_eq_true x2
        have d3 : decide (1 ≤ si) = true := decide_eq_true x3
        have d4 : decide (si ≤ 262144) = true := decide_eq_true x4
        have d5 : ((fl.length : Int) == 0) = true := by rw [beq_iff_eq]; omega
        clear x5
        obtain ⟨cb, hcb⟩ : ∃ cb, cb = closedB e ⟨bm, bi⟩ := ⟨_, rfl⟩
        have HCB := Lib.hid hcb.symm
        clear hcb
        go_wp2_with (first | (have _f := f2; refine (HCF.out _ _ _ HRB.out HB0.out).mono ?_; rw [HCB.out]; rintro e' w1 ⟨rfl, hb⟩; have HB1 := Lib.hid (bel_then HB0.out hb); clear hb _f f2))
        go_ret
        rw [HR.out, HCB.out]
        exact ⟨rfl, HB1.out⟩
      · have HR : Hid (mayTypeB e ⟨1, le, si, ⟨bm, bi⟩, fl⟩ = false) := Lib.hid (by rw [HM.out, decide_eq_false ha]; rfl)
        have hh : ¬ (1 ≤ le ∧ le ≤ 65535 ∧ 1 ≤ si ∧ si ≤ 262144 ∧ fl.length = 0) := ha
        clear ha
        by_cases x1 : 1 ≤ le
        rotate_left
        · have d : decide (1 ≤ le) = false := decide_eq_false x1
          go_wp2
          go_ret
          rw [HR.out]
          exact ⟨rfl, HB0.out⟩
        have d1 : decide (1 ≤ le) = true := decide_eq_true x1
        by_cases x2 : le ≤ 65535
        rotate_left
        · have d : decide (le ≤ 65535) = false := decide_eq_false x2
          go_wp2
          go_ret
          rw [HR.out]
          exact ⟨rfl, HB0.out⟩
        have d2 : decide (le ≤ 65535) = true := decide_eq_true x2
        by_cases x3 : 1 ≤ si
        rotate_left
        · have d : decide (1 ≤ si) = false := decide_eq_false x3
          go_wp2
          go_ret
          rw [HR.out]
          exact ⟨rfl, HB0.out⟩
        have d3 : decide (1 ≤ si) = true := decide_eq_true x3
        by_cases x4 : si ≤ 262144
        rotate_left
        · have d : decide (si ≤ 262144) = false := decide_eq_false x4
          go_wp2
          go_ret
          rw [HR.out]
          exact ⟨rfl, HB0.out⟩
        have d4 : decide (si ≤ 262144) = true := decide_eq_true x4
        have d5 : ((fl.length : Int) == 0) = false := by rw [beq_eq_false_iff_ne]; intro hq; exact hh ⟨x1, x2, x3, x4, by omega⟩
        clear hh
        go_wp2
        go_ret
        rw [HR.out]
        exact ⟨rfl, HB0.out⟩
    by_cases hf3 : fo = 3 ∨ fo = 4
    · have HM := Lib.hid (may_ptr (e := e) (t := ⟨fo, le, si, ⟨bm, bi⟩, fl⟩) hf3)
      cases bb with
      | true =>
        have HR : Hid (mayTypeB e ⟨fo, le, si, ⟨bm, bi⟩, fl⟩ = closedB e ⟨bm, bi⟩) := Lib.hid (by rw [HM.out, ← HBB.out]; rfl)
        obtain ⟨cb, hcb⟩ : ∃ cb, cb = closedB e ⟨bm, bi⟩ := ⟨_, rfl⟩
        have HCB := Lib.hid hcb.symm
        clear hcb hf1
        rcases hf3 with rfl | rfl
        all_goals (go_wp2_with (first | (have _f := f2; refine (HCF.out _ _ _ HRB.out HB0.out).mono ?_; rw [HCB.out]; rintro e' w1 ⟨rfl, hb⟩; have HB1 := Lib.hid (bel_then HB0.out hb); clear hb _f f2)); go_ret; rw [HR.out, HCB.out]; exact ⟨rfl, HB1.out⟩)
      | false =>
        have HR : Hid (mayTypeB e ⟨fo, le, si, ⟨bm, bi⟩, fl⟩ = false) := Lib.hid (by rw [HM.out, ← HBB.out]; rfl)
        clear hf1
        rcases hf3 with rfl | rfl
        all_goals (go_wp2; go_ret; rw [HR.out]; exact ⟨rfl, HB0.out⟩)
    have hf4 : fo ≠ 3 ∧ fo ≠ 4 := ⟨fun h => hf3 (.inl h), fun h => hf3 (.inr h)⟩
    clear hf3
    obtain ⟨hf3, hf4⟩ := hf4
    by_cases hf2 : fo ≠ 2
    · have HR := Lib.hid (may_none (e := e) (t := ⟨fo, le, si, ⟨bm, bi⟩, fl⟩) hf1 hf2 hf3 hf4)
      have e1 : (fo == 1) = false := by rw [beq_eq_false_iff_ne]; exact hf1
      have e2 : (fo == 2) = false := by rw [beq_eq_false_iff_ne]; exact hf2
      have e3 : (fo == 3) = false := by rw [beq_eq_false_iff_ne]; exact hf3
      have e4 : (fo == 4) = false := by rw [beq_eq_false_iff_ne]; exact hf4
      clear hf1 hf2 hf3 hf4
      go_wp2
      go_ret
      rw [HR.out]
      exact ⟨rfl, HB0.out⟩
    obtain rfl : fo = 2 := by omega
    clear hf1 hf2 hf3 hf4
    have HM := Lib.hid (may_rec (e := e) (t := ⟨2, le, si, ⟨bm, bi⟩, fl⟩) rfl)
    dsimp only at HM
    go_wp2_with fail
    go_loopw [6, 61] (fun _ i wr => ∃ k : Nat, k ≤ fl.length ∧ i = .int .i64 k ∧ FldTo e fl k ∧ Below ((w.alloc (.cells #[.string nm, .slice a1 l1.length c1, .slice a2 l2.length c2, .slice a3 l3.length c3] 26)).alloc (.cells #[.int .i64 2, .int .i64 le, .int .i64 si, .int .i64 bm, .int .i64 bi, .slice fa fl.length fcc] 34)).heap.size ((w.alloc (.cells #[.string nm, .slice a1 l1.length c1, .slice a2 l2.length c2, .slice a3 l3.length c3] 26)).alloc (.cells #[.int .i64 2, .int .i64 le, .int .i64 si, .int .i64 bm, .int .i64 bi, .slice fa fl.length fcc] 34)) wr) (fun _ i _ => fl.length - (intOf i).toNat)
    case atStart => exact ⟨0, Nat.zero_le _, rfl, FldTo.start e fl, Below.refl _ _⟩
    case round =>
      obtain ⟨k, hk, rfl, hF, hB⟩ := hrel
      have HF := Lib.hid hF
      have HB := Lib.hid hB
      clear hF hB
      by_cases hlt : k < fl.length
      · obtain ⟨⟨xn, xo, ⟨xm, xi⟩⟩, hx⟩ := get_lt hlt
        obtain ⟨b, o, hat, hcell⟩ := HRF.out.at'
        dsimp only at hat hcell
        obtain ⟨rfl, hb⟩ := hat (by omega)
        clear hat
        have HBW : Hid (Below w.heap.size w wr) := Lib.hid (bel_then HB0.out HB.out)
        have HCO : Hid (∀ (q : Nat) (y : Value), ([.string xn, .int .i64 xo, .int .i64 xm, .int .i64 xi] : List Value)[q]? = some y → wr.cell? ⟨b, o + k * 4 + q, none⟩ = some y) := Lib.hid (fun q y hy => (HBW.out.cell (p := ⟨b, o + k * 4 + q, none⟩) hb).trans (hcell k _ hx q y hy))
        have hok := HRF.out.ok hx
        obtain ⟨o1, ⟨o2, o2'⟩, ⟨o3, o3'⟩, ⟨o4, o4'⟩⟩ := hok
        dsimp only at o1 o2 o2' o3 o3' o4 o4'
        have HO := Lib.hid o1
        have HXR : Hid (Rf.ok ⟨xm, xi⟩) := Lib.hid ⟨⟨o3, o3'⟩, o4, o4'⟩
        have HX := Lib.hid hx
        have HLT := Lib.hid hlt
        have HRT : Hid (Rows fldD w ⟨some ⟨b, o, none⟩, fcc, fl.take k⟩) := Lib.hid (HRF.out.take' k)
        have hle := HRF.out.row.le
        dsimp only at hle
        have HTK : Hid ((fl.take k).length = k) := Lib.hid (by rw [List.length_take]; omega)
        have kl0 : (k : Int) ≤ fcc := by omega
        have kl1 : k ≤ fcc := by omega
        have kl2 : 0 < fcc := by omega
        have kl3 : ¬ fcc = 0 := by omega
        have hgt : wr.cell? ⟨w.heap.size + 1, 5, none⟩ = some (.slice (some ⟨b, o, none⟩) fl.length fcc) := (((HGT.out).bel HB.out).cell 5).trans rfl
        have HG1 := Lib.hid (HGF.out.bel HB.out)
        have HG2 := Lib.hid (HGT.out.bel HB.out)
        clear hx hcell hb o1 hle hgt
        cases hm : mayName xn with
        | false =>
          have HMN := Lib.hid hm
          have HV : Hid (mayTypeB e ⟨2, le, si, ⟨bm, bi⟩, fl⟩ = false) := Lib.hid (by rw [HM.out, HF.out.bad HX.out (fld_name hm)]; rfl)
          clear hm
          go_wp2_with (first | (have _f := f3; refine wpList_load_mid rfl 37 (.tmp 64) rfl b (o + k * 4) rfl [.string xn, .int .i64 xo, .int .i64 xm, .int .i64 xi] _ HCO.out Try.underlying37 rfl (by kernel_rfl) ?_; clear _f f3) | (have _f := f4; refine alloc_sep rfl 37 rfl (HSN.out _) (z := .agg #[.string ⟨#[]⟩, .int .i64 0, .int .i64 0, .int .i64 0]) (cs := #[.string ⟨#[]⟩, .int .i64 0, .int .i64 0, .int .i64 0]) (by kernel_rfl) rfl ?_; intro wc S' b' s'; have HSc := Lib.hid S'; have HBc := Lib.hid b'; clear S' b' s' _f f4) | (have _f := f5; refine store_sep (cells := #[.string xn, .int .i64 xo, .int .i64 xm, .int .i64 xi]) rfl 37 (.tmp 7) (.tmp 65) rfl HSc.out 0 rfl rfl rfl (by kernel_rfl) rfl rfl ?_; intro we S' k' s'; have HAe : Hid (At we wr.heap.size #[.string xn, .int .i64 xo, .int .i64 xm, .int .i64 xi] 37) := Lib.hid (S'.at 0 rfl); have HBe : Hid (Below wr.heap.size wr we) := Lib.hid (((Ke.below (· = wr.heap.size) HBc.out).trans k').toBelow (fun i hi e => absurd e (Nat.ne_of_lt hi))); have HBWe := Lib.hid (bel_then HBW.out HBe.out); have HG1e := Lib.hid (HG1.out.bel HBe.out); have HG2e := Lib.hid (HG2.out.bel HBe.out); have y0 := (HAe.out.cell 0).trans (show _ = some (.string xn) from rfl); have y1 := (HAe.out.cell 1).trans (show _ = some (.int .i64 xo) from rfl); clear S' k' s' _f f5) | (have _f := f6; refine (mayName_any _ _ HO.out).mono ?_; rw [HMN.out]; rintro e' w' ⟨rfl, rfl⟩; clear _f f6))
          go_ret
          rw [HV.out]
          exact ⟨rfl, bel_then HBW.out HBe.out⟩
        | true =>
          have HMN := Lib.hid hm
          clear hm
          by_cases ho1 : xo < 0
          · have d1 : decide (xo < 0) = true := decide_eq_true ho1
            have HV : Hid (mayTypeB e ⟨2, le, si, ⟨bm, bi⟩, fl⟩ = false) := Lib.hid (by rw [HM.out, HF.out.bad HX.out (fld_off (by dsimp only; omega))]; rfl)
            go_wp2_with (first | (have _f := f3; refine wpList_load_mid rfl 37 (.tmp 64) rfl b (o + k * 4) rfl [.string xn, .int .i64 xo, .int .i64 xm, .int .i64 xi] _ HCO.out Try.underlying37 rfl (by kernel_rfl) ?_; clear _f f3) | (have _f := f4; refine alloc_sep rfl 37 rfl (HSN.out _) (z := .agg #[.string ⟨#[]⟩, .int .i64 0, .int .i64 0, .int .i64 0]) (cs := #[.string ⟨#[]⟩, .int .i64 0, .int .i64 0, .int .i64 0]) (by kernel_rfl) rfl ?_; intro wc S' b' s'; have HSc := Lib.hid S'; have HBc := Lib.hid b'; clear S' b' s' _f f4) | (have _f := f5; refine store_sep (cells := #[.string xn, .int .i64 xo, .int .i64 xm, .int .i64 xi]) rfl 37 (.tmp 7) (.tmp 65) rfl HSc.out 0 rfl rfl rfl (by kernel_rfl) rfl rfl ?_; intro we S' k' s'; have HAe : Hid (At we wr.heap.size #[.string xn, .int .i64 xo, .int .i64 xm, .int .i64 xi] 37) := Lib.hid (S'.at 0 rfl); have HBe : Hid (Below wr.heap.size wr we) := Lib.hid (((Ke.below (· = wr.heap.size) HBc.out).trans k').toBelow (fun i hi e => absurd e (Nat.ne_of_lt hi))); have HBWe := Lib.hid (bel_then HBW.out HBe.out); have HG1e := Lib.hid (HG1.out.bel HBe.out); have HG2e := Lib.hid (HG2.out.bel HBe.out); have y0 := (HAe.out.cell 0).trans (show _ = some (.string xn) from rfl); have y1 := (HAe.out.cell 1).trans (show _ = some (.int .i64 xo) from rfl); clear S' k' s' _f f5) | (have _f := f6; refine (mayName_any _ _ HO.out).mono ?_; rw [HMN.out]; rintro e' w' ⟨rfl, rfl⟩; clear _f f6))
            go_ret
            rw [HV.out]
            exact ⟨rfl, bel_then HBW.out HBe.out⟩
          have d1 : decide (xo < 0) = false := decide_eq_false ho1
          by_cases ho2 : 262144 < xo
          · have d2 : decide (262144 < xo) = true := decide_eq_true ho2
            have HV : Hid (mayTypeB e ⟨2, le, si, ⟨bm, bi⟩, fl⟩ = false) := Lib.hid (by rw [HM.out, HF.out.bad HX.out (fld_off (by dsimp only; omega))]; rfl)
            go_wp2_with (first | (have _f := f3; refine wpList_load_mid rfl 37 (.tmp 64) rfl b (o + k * 4) rfl [.string xn, .int .i64 xo, .int .i64 xm, .int .i64 xi] _ HCO.out Try.underlying37 rfl (by kernel_rfl) ?_; clear _f f3) | (have _f := f4; refine alloc_sep rfl 37 rfl (HSN.out _) (z := .agg #[.string ⟨#[]⟩, .int .i64 0, .int .i64 0, .int .i64 0]) (cs := #[.string ⟨#[]⟩, .int .i64 0, .int .i64 0, .int .i64 0]) (by kernel_rfl) rfl ?_; intro wc S' b' s'; have HSc := Lib.hid S'; have HBc := Lib.hid b'; clear S' b' s' _f f4) | (have _f := f5; refine store_sep (cells := #[.string xn, .int .i64 xo, .int .i64 xm, .int .i64 xi]) rfl 37 (.tmp 7) (.tmp 65) rfl HSc.out 0 rfl rfl rfl (by kernel_rfl) rfl rfl ?_; intro we S' k' s'; have HAe : Hid (At we wr.heap.size #[.string xn, .int .i64 xo, .int .i64 xm, .int .i64 xi] 37) := Lib.hid (S'.at 0 rfl); have HBe : Hid (Below wr.heap.size wr we) := Lib.hid (((Ke.below (· = wr.heap.size) HBc.out).trans k').toBelow (fun i hi e => absurd e (Nat.ne_of_lt hi))); have HBWe := Lib.hid (bel_then HBW.out HBe.out); have HG1e := Lib.hid (HG1.out.bel HBe.out); have HG2e := Lib.hid (HG2.out.bel HBe.out); have y0 := (HAe.out.cell 0).trans (show _ = some (.string xn) from rfl); have y1 := (HAe.out.cell 1).trans (show _ = some (.int .i64 xo) from rfl); clear S' k' s' _f f5) | (have _f := f6; refine (mayName_any _ _ HO.out).mono ?_; rw [HMN.out]; rintro e' w' ⟨rfl, rfl⟩; clear _f f6))
            go_ret
            rw [HV.out]
            exact ⟨rfl, bel_then HBW.out HBe.out⟩
          have d2 : decide (262144 < xo) = false := decide_eq_false ho2
          have HOF : Hid (0 ≤ xo ∧ xo ≤ 262144) := Lib.hid (by omega)
          clear ho1 ho2
          cases hcx : closedB e ⟨xm, xi⟩ with
          | false =>
            have HCX := Lib.hid hcx
            have HV : Hid (mayTypeB e ⟨2, le, si, ⟨bm, bi⟩, fl⟩ = false) := Lib.hid (by rw [HM.out, HF.out.bad HX.out (fld_base hcx)]; rfl)
            clear hcx
            go_wp2_with (first | (have _f := f3; refine wpList_load_mid rfl 37 (.tmp 64) rfl b (o + k * 4) rfl [.string xn, .int .i64 xo, .int .i64 xm, .int .i64 xi] _ HCO.out Try.underlying37 rfl (by kernel_rfl) ?_; clear _f f3) | (have _f := f4; refine alloc_sep rfl 37 rfl (HSN.out _) (z := .agg #[.string ⟨#[]⟩, .int .i64 0, .int .i64 0, .int .i64 0]) (cs := #[.string ⟨#[]⟩, .int .i64 0, .int .i64 0, .int .i64 0]) (by kernel_rfl) rfl ?_; intro wc S' b' s'; have HSc := Lib.hid S'; have HBc := Lib.hid b'; clear S' b' s' _f f4) | (have _f := f5; refine store_sep (cells := #[.string xn, .int .i64 xo, .int .i64 xm, .int .i64 xi]) rfl 37 (.tmp 7) (.tmp 65) rfl HSc.out 0 rfl rfl rfl (by kernel_rfl) rfl rfl ?_; intro we S' k' s'; have HAe : Hid (At we wr.heap.size #[.string xn, .int .i64 xo, .int .i64 xm, .int .i64 xi] 37) := Lib.hid (S'.at 0 rfl); have HBe : Hid (Below wr.heap.size wr we) := Lib.hid (((Ke.below (· = wr.heap.size) HBc.out).trans k').toBelow (fun i hi e => absurd e (Nat.ne_of_lt hi))); have HBWe := Lib.hid (bel_then HBW.out HBe.out); have HG1e := Lib.hid (HG1.out.bel HBe.out); have HG2e := Lib.hid (HG2.out.bel HBe.out); have y0 := (HAe.out.cell 0).trans (show _ = some (.string xn) from rfl); have y1 := (HAe.out.cell 1).trans (show _ = some (.int .i64 xo) from rfl); clear S' k' s' _f f5) | (have _f := f6; refine (mayName_any _ _ HO.out).mono ?_; rw [HMN.out]; rintro e' w' ⟨rfl, rfl⟩; clear _f f6) | (have _f := f1; refine guard_off (by kernel_rfl) ?_; refine load_sep (cs := #[.string nm, .slice a1 l1.length c1, .slice a2 l2.length c2, .slice a3 l3.length c3]) rfl 26 (.tmp 2) rfl (Sep.one HG1e.out) 0 rfl rfl Try.underlying26 rfl (by kernel_rfl) ?_; clear _f f1) | (have _f := f7; refine guard_off (by kernel_rfl) ?_; refine wpList_load_mid rfl 30 (.tmp 82) rfl wr.heap.size 2 rfl [.int .i64 xm, .int .i64 xi] _ (fun q y hy => (HAe.out.cell (2 + q)).trans (by match q, hy with | 0, hy => exact hy | 1, hy => exact hy)) Try.underlying30 rfl (by kernel_rfl) ?_; clear _f f7) | (have _f := f2; refine (HCF.out xm xi _ HXR.out HBWe.out).mono ?_; rw [HCX.out]; rintro e' w1 ⟨rfl, hb⟩; have HB1 := Lib.hid (bel_then HBe.out hb); have HBW1 := Lib.hid (bel_then HBWe.out hb); have hgt := ((HG2e.out.bel hb).cell 5).trans (show _ = some (.slice (some ⟨b, o, none⟩) fl.length fcc) from rfl); have HAe1 := Lib.hid (HAe.out.bel hb); clear hb _f f2))
            go_ret
            rw [HV.out]
            exact ⟨rfl, bel_then HBW.out HB1.out⟩
          | true =>
            have HCX := Lib.hid hcx
            clear hcx
            cases ha : (fl.take k).any (fun y => decide (y.name = xn)) with
            | true =>
              have HAN := Lib.hid ha
              have HV : Hid (mayTypeB e ⟨2, le, si, ⟨bm, bi⟩, fl⟩ = false) := Lib.hid (by rw [HM.out, HF.out.twice HX.out (by rw [List.any_map]; exact ha)]; rfl)
              clear ha
              go_wp2_with (first | (have _f := f3; refine wpList_load_mid rfl 37 (.tmp 64) rfl b (o + k * 4) rfl [.string xn, .int .i64 xo, .int .i64 xm, .int .i64 xi] _ HCO.out Try.underlying37 rfl (by kernel_rfl) ?_; clear _f f3) | (have _f := f4; refine alloc_sep rfl 37 rfl (HSN.out _) (z := .agg #[.string ⟨#[]⟩, .int .i64 0, .int .i64 0, .int .i64 0]) (cs := #[.string ⟨#[]⟩, .int .i64 0, .int .i64 0, .int .i64 0]) (by kernel_rfl) rfl ?_; intro wc S' b' s'; have HSc := Lib.hid S'; have HBc := Lib.hid b'; clear S' b' s' _f f4) | (have _f := f5; refine store_sep (cells := #[.string xn, .int .i64 xo, .int .i64 xm, .int .i64 xi]) rfl 37 (.tmp 7) (.tmp 65) rfl HSc.out 0 rfl rfl rfl (by kernel_rfl) rfl rfl ?_; intro we S' k' s'; have HAe : Hid (At we wr.heap.size #[.string xn, .int .i64 xo, .int .i64 xm, .int .i64 xi] 37) := Lib.hid (S'.at 0 rfl); have HBe : Hid (Below wr.heap.size wr we) := Lib.hid (((Ke.below (· = wr.heap.size) HBc.out).trans k').toBelow (fun i hi e => absurd e (Nat.ne_of_lt hi))); have HBWe := Lib.hid (bel_then HBW.out HBe.out); have HG1e := Lib.hid (HG1.out.bel HBe.out); have HG2e := Lib.hid (HG2.out.bel HBe.out); have y0 := (HAe.out.cell 0).trans (show _ = some (.string xn) from rfl); have y1 := (HAe.out.cell 1).trans (show _ = some (.int .i64 xo) from rfl); clear S' k' s' _f f5) | (have _f := f6; refine (mayName_any _ _ HO.out).mono ?_; rw [HMN.out]; rintro e' w' ⟨rfl, rfl⟩; clear _f f6) | (have _f := f1; refine guard_off (by kernel_rfl) ?_; refine load_sep (cs := #[.string nm, .slice a1 l1.length c1, .slice a2 l2.length c2, .slice a3 l3.length c3]) rfl 26 (.tmp 2) rfl (Sep.one HG1e.out) 0 rfl rfl Try.underlying26 rfl (by kernel_rfl) ?_; clear _f f1) | (have _f := f7; refine guard_off (by kernel_rfl) ?_; refine wpList_load_mid rfl 30 (.tmp 82) rfl wr.heap.size 2 rfl [.int .i64 xm, .int .i64 xi] _ (fun q y hy => (HAe.out.cell (2 + q)).trans (by match q, hy with | 0, hy => exact hy | 1, hy => exact hy)) Try.underlying30 rfl (by kernel_rfl) ?_; clear _f f7) | (have _f := f2; refine (HCF.out xm xi _ HXR.out HBWe.out).mono ?_; rw [HCX.out]; rintro e' w1 ⟨rfl, hb⟩; have HB1 := Lib.hid (bel_then HBe.out hb); have HBW1 := Lib.hid (bel_then HBWe.out hb); have hgt := ((HG2e.out.bel hb).cell 5).trans (show _ = some (.slice (some ⟨b, o, none⟩) fl.length fcc) from rfl); have HAe1 := Lib.hid (HAe.out.bel hb); clear hb _f f2) | (have _f := f8; refine (hasFld b o fcc fl k wr.heap.size xn w _ HRT.out HTK.out HBW1.out ((HAe1.out.cell 0).trans rfl) HAe1.out.lt).mono ?_; rw [HAN.out]; rintro e' w2 ⟨rfl, hb⟩; have HB2 := Lib.hid (bel_then HB1.out hb); clear hb _f f8))
              go_ret
              rw [HV.out]
              exact ⟨rfl, bel_then HBW.out HB2.out⟩
            | false =>
              have HAN := Lib.hid ha
              have HNX : Hid (FldTo e fl (k + 1)) := Lib.hid (HF.out.next HX.out (fld_yes HMN.out HOF.out HCX.out) (by rw [List.any_map]; exact ha))
              clear ha
              go_wp2_with (first | (have _f := f3; refine wpList_load_mid rfl 37 (.tmp 64) rfl b (o + k * 4) rfl [.string xn, .int .i64 xo, .int .i64 xm, .int .i64 xi] _ HCO.out Try.underlying37 rfl (by kernel_rfl) ?_; clear _f f3) | (have _f := f4; refine alloc_sep rfl 37 rfl (HSN.out _) (z := .agg #[.string ⟨#[]⟩, .int .i64 0, .int .i64 0, .int .i64 0]) (cs := #[.string ⟨#[]⟩, .int .i64 0, .int .i64 0, .int .i64 0]) (by kernel_rfl) rfl ?_; intro wc S' b' s'; have HSc := Lib.hid S'; have HBc := Lib.hid b'; clear S' b' s' _f f4) | (have _f := f5; refine store_sep (cells := #[.string xn, .int .i64 xo, .int .i64 xm, .int .i64 xi]) rfl 37 (.tmp 7) (.tmp 65) rfl HSc.out 0 rfl rfl rfl (by kernel_rfl) rfl rfl ?_; intro we S' k' s'; have HAe : Hid (At we wr.heap.size #[.string xn, .int .i64 xo, .int .i64 xm, .int .i64 xi] 37) := Lib.hid (S'.at 0 rfl); have HBe : Hid (Below wr.heap.size wr we) := Lib.hid (((Ke.below (· = wr.heap.size) HBc.out).trans k').toBelow (fun i hi e => absurd e (Nat.ne_of_lt hi))); have HBWe := Lib.hid (bel_then HBW.out HBe.out); have HG1e := Lib.hid (HG1.out.bel HBe.out); have HG2e := Lib.hid (HG2.out.bel HBe.out); have y0 := (HAe.out.cell 0).trans (show _ = some (.string xn) from rfl); have y1 := (HAe.out.cell 1).trans (show _ = some (.int .i64 xo) from rfl); clear S' k' s' _f f5) | (have _f := f6; refine (mayName_any _ _ HO.out).mono ?_; rw [HMN.out]; rintro e' w' ⟨rfl, rfl⟩; clear _f f6) | (have _f := f1; refine guard_off (by kernel_rfl) ?_; refine load_sep (cs := #[.string nm, .slice a1 l1.length c1, .slice a2 l2.length c2, .slice a3 l3.length c3]) rfl 26 (.tmp 2) rfl (Sep.one HG1e.out) 0 rfl rfl Try.underlying26 rfl (by kernel_rfl) ?_; clear _f f1) | (have _f := f7; refine guard_off (by kernel_rfl) ?_; refine wpList_load_mid rfl 30 (.tmp 82) rfl wr.heap.size 2 rfl [.int .i64 xm, .int .i64 xi] _ (fun q y hy => (HAe.out.cell (2 + q)).trans (by match q, hy with | 0, hy => exact hy | 1, hy => exact hy)) Try.underlying30 rfl (by kernel_rfl) ?_; clear _f f7) | (have _f := f2; refine (HCF.out xm xi _ HXR.out HBWe.out).mono ?_; rw [HCX.out]; rintro e' w1 ⟨rfl, hb⟩; have HB1 := Lib.hid (bel_then HBe.out hb); have HBW1 := Lib.hid (bel_then HBWe.out hb); have hgt := ((HG2e.out.bel hb).cell 5).trans (show _ = some (.slice (some ⟨b, o, none⟩) fl.length fcc) from rfl); have HAe1 := Lib.hid (HAe.out.bel hb); clear hb _f f2) | (have _f := f8; refine (hasFld b o fcc fl k wr.heap.size xn w _ HRT.out HTK.out HBW1.out ((HAe1.out.cell 0).trans rfl) HAe1.out.lt).mono ?_; rw [HAN.out]; rintro e' w2 ⟨rfl, hb⟩; have HB2 := Lib.hid (bel_then HB1.out hb); clear hb _f f8))
              go_roundw
              case rel => exact ⟨k + 1, HLT.out, by go_num, HNX.out, bel_then HB.out HB2.out⟩
              case measure => simp [intOf]; have := HLT.out; omega
      · have HD : Hid (mayTypeB e ⟨2, le, si, ⟨bm, bi⟩, fl⟩ = recEnd ⟨2, le, si, ⟨bm, bi⟩, fl⟩) := Lib.hid (by rw [HM.out, HF.out.done (by omega)]; rfl)
        clear hk
        have HBW : Hid (Below w.heap.size w wr) := Lib.hid (bel_then HB0.out HB.out)
        have t1 := ((HGT.out.bel HB.out).cell 1).trans (show _ = some (.int .i64 le) from rfl)
        have t2 := ((HGT.out.bel HB.out).cell 2).trans (show _ = some (.int .i64 si) from rfl)
        have t3 := ((HGT.out.bel HB.out).cell 3).trans (show _ = some (.int .i64 bm) from rfl)
        have t4 := ((HGT.out.bel HB.out).cell 4).trans (show _ = some (.int .i64 bi) from rfl)
        have t5 := ((HGT.out.bel HB.out).cell 5).trans (show _ = some (.slice fa fl.length fcc) from rfl)
        by_cases x1 : le = 0
        rotate_left
        · have d : (le == 0) = false := by rw [beq_eq_false_iff_ne]; exact x1
          have HE : Hid (recEnd ⟨2, le, si, ⟨bm, bi⟩, fl⟩ = false) := Lib.hid (recEnd_no (fun q => x1 q.1))
          clear x1
          go_wp2
          go_ret
          rw [HD.out, HE.out]
          exact ⟨rfl, HBW.out⟩
        have d1 : (le == 0) = true := by rw [x1]; rfl
        by_cases x2 : bm = 0
        rotate_left
        · have d : (bm == 0) = false := by rw [beq_eq_false_iff_ne]; exact x2
          have HE : Hid (recEnd ⟨2, le, si, ⟨bm, bi⟩, fl⟩ = false) := Lib.hid (recEnd_no (fun q => x2 q.2.1))
          clear x1 x2
          go_wp2
          go_ret
          rw [HD.out, HE.out]
          exact ⟨rfl, HBW.out⟩
        have d2 : (bm == 0) = true := by rw [x2]; rfl
        by_cases x3 : bi = 0
        rotate_left
        · have d : (bi == 0) = false := by rw [beq_eq_false_iff_ne]; exact x3
          have HE : Hid (recEnd ⟨2, le, si, ⟨bm, bi⟩, fl⟩ = false) := Lib.hid (recEnd_no (fun q => x3 q.2.2.1))
          clear x1 x2 x3
          go_wp2
          go_ret
          rw [HD.out, HE.out]
          exact ⟨rfl, HBW.out⟩
        have d3 : (bi == 0) = true := by rw [x3]; rfl
        by_cases x4 : 1 ≤ si
        rotate_left
        · have d : decide (1 ≤ si) = false := decide_eq_false x4
          have HE : Hid (recEnd ⟨2, le, si, ⟨bm, bi⟩, fl⟩ = false) := Lib.hid (recEnd_no (fun q => x4 q.2.2.2.1))
          clear x1 x2 x3 x4
          go_wp2
          go_ret
          rw [HD.out, HE.out]
          exact ⟨rfl, HBW.out⟩
        have d4 : decide (1 ≤ si) = true := decide_eq_true x4
        by_cases x5 : si ≤ 262144
        rotate_left
        · have d : decide (si ≤ 262144) = false := decide_eq_false x5
          have HE : Hid (recEnd ⟨2, le, si, ⟨bm, bi⟩, fl⟩ = false) := Lib.hid (recEnd_no (fun q => x5 q.2.2.2.2))
          clear x1 x2 x3 x4 x5
          go_wp2
          go_ret
          rw [HD.out, HE.out]
          exact ⟨rfl, HBW.out⟩
        have d5 : decide (si ≤ 262144) = true := decide_eq_true x5
        have HE := Lib.hid (recEnd_yes (t := ⟨2, le, si, ⟨bm, bi⟩, fl⟩) ⟨x1, x2, x3, x4, x5⟩)
        dsimp only at HE
        clear x1 x2 x3 x4 x5
        go_wp2
        go_ret
        rw [HD.out, HE.out]
        exact ⟨rfl, HBW.out⟩
end Go.Proofs.Ytfnibpkojhgflaa
