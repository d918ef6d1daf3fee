/- Contract: the reference's MayType. Printed by bin/gen_symrtype.py. -/
import Derived.Test.YtfnibpkojhgflaaFaceA
import Derived.Test.YtfnibpkojhgflaaLibA
import Derived.Test.YtfnibpkojhgflaaObjA
import Derived.Deep.QuietTactic
import Derived.BigQuiet
import Derived.Deep.DeepCutAuto
import Derived.Laws.EntriesVeiled
namespace Go.Proofs.Ytfnibpkojhgflaa
set_option linter.unusedVariables false
set_option linter.unusedSimpArgs false
open Go.RowKit

theorem may_some {e : Env} {t : TD} (h2 : t.form ≠ 2) (h : t.fields.length ≠ 0) : mayTypeB e t = false := by
  unfold mayTypeB
  rw [if_neg h2]
  split
  · rw [decide_eq_false (show ¬ t.fields.length = 0 from h)]; simp
  · split
    · rw [decide_eq_false (show ¬ (t.len = 0 ∧ t.size = 0 ∧ t.fields.length = 0) from fun q => h q.2.2)]; rfl
    · rfl
theorem may_open {e : Env} {t : TD} (h2 : t.form ≠ 2) (h : closedB e t.base = false) : mayTypeB e t = false := by
  unfold mayTypeB
  rw [if_neg h2, h, Bool.and_false, Bool.and_false]
  simp
theorem seen_no {l : List Fld} {k : Nat} {s : ByteArray} (h : ∀ j x, j < k → l[j]? = some x → x.name ≠ s) : ((l.take k).map Fld.name).any (fun x => decide (x = s)) = false := by
  rw [Bool.eq_false_iff]; intro hh
  obtain ⟨j, x, hj, hx, he⟩ := seenF_iff.1 hh
  exact h j x hj hx he
theorem seen_yes {l : List Fld} {k j : Nat} {x : Fld} {s : ByteArray} (hj : j < k) (hx : l[j]? = some x) (he : x.name = s) : ((l.take k).map Fld.name).any (fun x => decide (x = s)) = true := seenF_iff.2 ⟨j, x, hj, hx, he⟩

set_option maxRecDepth 100000 in
set_option maxHeartbeats 16000000 in
theorem rmayType_walk (f : Fc) (t : FT) (w : World) (h : f.Rd w) (ht : ftD.ok w t) (hn2 : f.types.l.length ≤ 100000000000) :
    Calls Try.prog 29 #[f.val, .agg (ftD.cells t).toArray] w fun e' w' => e' = .returned (.bool (mayTypeB f.d.env t.d)) ∧ Below w.heap.size w w' := by
  have HCL : Hid (∀ (r : Rf) (W : World), r.ok → Below w.heap.size w W → Calls Try.prog 65 #[f.val, r.val] W fun e' w' => e' = .returned (.bool (closedB f.d.env r)) ∧ Below W.heap.size W w') := Lib.hid (fun r W hr k => rclosed_walk f r W (h.bel k) hr hn2)
  obtain ⟨q1, q2, q3, q4, q5⟩ := ht
  obtain ⟨e, he⟩ : ∃ e, e = f.d.env := ⟨_, rfl⟩
  rw [← he] at HCL ⊢
  clear he h hn2
  obtain ⟨nm, ⟨a1, c1, l1⟩, ⟨a2, c2, l2⟩, ⟨a3, c3, l3⟩⟩ := f
  obtain ⟨fo, le, si, ⟨bm, bi⟩, ⟨fa, fcc, fl⟩⟩ := t
  show Calls _ _ #[.agg #[.string nm, .slice a1 l1.length c1, .slice a2 l2.length c2, .slice a3 l3.length c3], .agg #[.int .i64 fo, .int .i64 le, .int .i64 si, .int .i64 bm, .int .i64 bi, .slice fa fl.length fcc]] w fun e' w' => e' = .returned (.bool (mayTypeB e ⟨fo, le, si, ⟨bm, bi⟩, fl⟩)) ∧ _
  have HCF : Hid (∀ (m i : Int) (W : World), Rf.ok ⟨m, i⟩ → Below w.heap.size w W → Calls Try.prog 65 #[.agg #[.string nm, .slice a1 l1.length c1, .slice a2 l2.length c2, .slice a3 l3.length c3], .agg #[.int .i64 m, .int .i64 i]] W fun e' w' => e' = .returned (.bool (closedB e ⟨m, i⟩)) ∧ Below W.heap.size W w') := Lib.hid (fun m i W hr k => HCL.out ⟨m, i⟩ W hr k)
  clear HCL
  dsimp only at q1 q2 q3 q4 q5
  have hfl := q5.len
  dsimp only at hfl
  have HRF : Hid (Rows fldD w ⟨fa, fcc, fl⟩) := Lib.hid q5
  have HRB : Hid (Rf.ok ⟨bm, bi⟩) := Lib.hid q4
  clear q5
  obtain ⟨q1, q1'⟩ := q1
  obtain ⟨q2, q2'⟩ := q2
  obtain ⟨q3, q3'⟩ := q3
  obtain ⟨⟨q4, q4'⟩, q5, q5'⟩ := q4
  dsimp only at q4 q4' q5 q5'
  have HB0 : Hid (Below w.heap.size w ((w.alloc (.cells #[.string nm, .slice a1 l1.length c1, .slice a2 l2.length c2, .slice a3 l3.length c3] 26)).alloc (.cells #[.int .i64 fo, .int .i64 le, .int .i64 si, .int .i64 bm, .int .i64 bi, .slice fa fl.length fcc] 34))) := Lib.hid (bel2 w _ _)
  have HGF : Hid (At ((w.alloc (.cells #[.string nm, .slice a1 l1.length c1, .slice a2 l2.length c2, .slice a3 l3.length c3] 26)).alloc (.cells #[.int .i64 fo, .int .i64 le, .int .i64 si, .int .i64 bm, .int .i64 bi, .slice fa fl.length fcc] 34)) w.heap.size #[.string nm, .slice a1 l1.length c1, .slice a2 l2.length c2, .slice a3 l3.length c3] 26) := Lib.hid ((At.new w _ 26).old _)
  have HGT : Hid (At ((w.alloc (.cells #[.string nm, .slice a1 l1.length c1, .slice a2 l2.length c2, .slice a3 l3.length c3] 26)).alloc (.cells #[.int .i64 fo, .int .i64 le, .int .i64 si, .int .i64 bm, .int .i64 bi, .slice fa fl.length fcc] 34)) (w.heap.size + 1) #[.int .i64 fo, .int .i64 le, .int .i64 si, .int .i64 bm, .int .i64 bi, .slice fa fl.length fcc] 34) := Lib.hid (by have := At.new (w.alloc (.cells #[.string nm, .slice a1 l1.length c1, .slice a2 l2.length c2, .slice a3 l3.length c3] 26)) #[.int .i64 fo, .int .i64 le, .int .i64 si, .int .i64 bm, .int .i64 bi, .slice fa fl.length fcc] 34; rwa [show (w.alloc (.cells #[.string nm, .slice a1 l1.length c1, .slice a2 l2.length c2, .slice a3 l3.length c3] 26)).heap.size = w.heap.size + 1 by simp] at this)
  have f1 : True := trivial
  have f2 : True := trivial
  have f3 : True := trivial
  have f4 : True := trivial
  have f5 : True := trivial
  have f6 : True := trivial
  have f7 : True := trivial
  have f8 : True := trivial
  have f9 : True := trivial
  have HSN := Lib.hid (fun w' : World => Sep.nil w')
  go_enter Try.func29, Try.ntmps29
  by_cases hf2 : fo ≠ 2
  · have e2 : (fo == 2) = false := by rw [beq_eq_false_iff_ne]; exact hf2
    by_cases h5 : fl.length = 0
    rotate_left
    · have HV : Hid (mayTypeB e ⟨fo, le, si, ⟨bm, bi⟩, fl⟩ = false) := Lib.hid (may_some hf2 (by dsimp only; omega))
      have d5 : decide ((0 : Int) < fl.length) = true := decide_eq_true (by omega)
      have d6 : decide (0 < fl.length) = true := decide_eq_true (by omega)
      clear hf2 h5
      go_wp2_with (fail)
      go_ret
      rw [HV.out]
      exact ⟨rfl, HB0.out⟩
    have d5 : decide ((0 : Int) < fl.length) = false := decide_eq_false (by omega)
    have d6 : decide (0 < fl.length) = false := decide_eq_false (by omega)
    have H5 := Lib.hid h5
    clear h5
    cases hcb : closedB e ⟨bm, bi⟩ with
    | false =>
      have HCB := Lib.hid hcb
      have HV : Hid (mayTypeB e ⟨fo, le, si, ⟨bm, bi⟩, fl⟩ = false) := Lib.hid (may_open hf2 hcb)
      clear hcb hf2
      go_wp2_with (first | (have _f := f1; refine guard_off (by kernel_rfl) ?_; refine load_sep (cs := #[.string nm, .slice a1 l1.length c1, .slice a2 l2.length c2, .slice a3 l3.length c3]) rfl 26 (.tmp 2) rfl (Sep.one HGF.out) 0 rfl rfl Try.underlying26 rfl (by kernel_rfl) ?_; clear _f f1) | (have _f := f2; refine guard_off (by kernel_rfl) ?_; refine wpList_load_mid rfl 30 (.tmp 89) rfl (w.heap.size + 1) 3 rfl [.int .i64 bm, .int .i64 bi] _ (fun q y hy => (HGT.out.cell (3 + q)).trans (by match q, hy with | 0, hy => exact hy | 1, hy => exact hy)) Try.underlying30 rfl (by kernel_rfl) ?_; clear _f f2) | (have _f := f3; refine (HCF.out _ _ _ HRB.out HB0.out).mono ?_; rw [HCB.out]; rintro e' w1 ⟨rfl, hb⟩; have HB1 := Lib.hid (bel_then HB0.out hb); have t0 := ((HGT.out.bel hb).cell 0).trans (show _ = some (.int .i64 fo) from rfl); have t1 := ((HGT.out.bel hb).cell 1).trans (show _ = some (.int .i64 le) from rfl); have t2 := ((HGT.out.bel hb).cell 2).trans (show _ = some (.int .i64 si) from rfl); clear hb _f f3))
      go_ret
      rw [HV.out]
      exact ⟨rfl, HB1.out⟩
    | true =>
      have HCB := Lib.hid hcb
      by_cases hf1 : fo = 1
      · have e1 : (fo == 1) = true := by rw [hf1]; rfl
        have HM := Lib.hid (may_arr (e := e) (t := ⟨fo, le, si, ⟨bm, bi⟩, fl⟩) hf1)
        dsimp only at HM
        by_cases x1 : 1 ≤ le
        rotate_left
        · have d : decide (1 ≤ le) = false := decide_eq_false x1
          have HV : Hid (mayTypeB e ⟨fo, le, si, ⟨bm, bi⟩, fl⟩ = false) := Lib.hid (by rw [HM.out, decide_eq_false (fun q : arrHead ⟨fo, le, si, ⟨bm, bi⟩, fl⟩ => x1 q.1)]; rfl)
          clear hf1 hf2 hcb x1
          go_wp2_with (first | (have _f := f1; refine guard_off (by kernel_rfl) ?_; refine load_sep (cs := #[.string nm, .slice a1 l1.length c1, .slice a2 l2.length c2, .slice a3 l3.length c3]) rfl 26 (.tmp 2) rfl (Sep.one HGF.out) 0 rfl rfl Try.underlying26 rfl (by kernel_rfl) ?_; clear _f f1) | (have _f := f2; refine guard_off (by kernel_rfl) ?_; refine wpList_load_mid rfl 30 (.tmp 89) rfl (w.heap.size + 1) 3 rfl [.int .i64 bm, .int .i64 bi] _ (fun q y hy => (HGT.out.cell (3 + q)).trans (by match q, hy with | 0, hy => exact hy | 1, hy => exact hy)) Try.underlying30 rfl (by kernel_rfl) ?_; clear _f f2) | (have _f := f3; refine (HCF.out _ _ _ HRB.out HB0.out).mono ?_; rw [HCB.out]; rintro e' w1 ⟨rfl, hb⟩; have HB1 := Lib.hid (bel_then HB0.out hb); have t0 := ((HGT.out.bel hb).cell 0).trans (show _ = some (.int .i64 fo) from rfl); have t1 := ((HGT.out.bel hb).cell 1).trans (show _ = some (.int .i64 le) from rfl); have t2 := ((HGT.out.bel hb).cell 2).trans (show _ = some (.int .i64 si) from rfl); clear hb _f f3))
          go_ret
          rw [HV.out]
          exact ⟨rfl, HB1.out⟩
        have d1 : decide (1 ≤ le) = true := decide_eq_true x1
        by_cases x2 : le ≤ 65535
        rotate_left
        · have d : decide (le ≤ 65535) = false := decide_eq_false x2
          have HV : Hid (mayTypeB e ⟨fo, le, si, ⟨bm, bi⟩, fl⟩ = false) := Lib.hid (by rw [HM.out, decide_eq_false (fun q : arrHead ⟨fo, le, si, ⟨bm, bi⟩, fl⟩ => x2 q.2.1)]; rfl)
          clear hf1 hf2 hcb x1 x2
          go_wp2_with (first | (have _f := f1; refine guard_off (by kernel_rfl) ?_; refine load_sep (cs := #[.string nm, .slice a1 l1.length c1, .slice a2 l2.length c2, .slice a3 l3.length c3]) rfl 26 (.tmp 2) rfl (Sep.one HGF.out) 0 rfl rfl Try.underlying26 rfl (by kernel_rfl) ?_; clear _f f1) | (have _f := f2; refine guard_off (by kernel_rfl) ?_; refine wpList_load_mid rfl 30 (.tmp 89) rfl (w.heap.size + 1) 3 rfl [.int .i64 bm, .int .i64 bi] _ (fun q y hy => (HGT.out.cell (3 + q)).trans (by match q, hy with | 0, hy => exact hy | 1, hy => exact hy)) Try.underlying30 rfl (by kernel_rfl) ?_; clear _f f2) | (have _f := f3; refine (HCF.out _ _ _ HRB.out HB0.out).mono ?_; rw [HCB.out]; rintro e' w1 ⟨rfl, hb⟩; have HB1 := Lib.hid (bel_then HB0.out hb); have t0 := ((HGT.out.bel hb).cell 0).trans (show _ = some (.int .i64 fo) from rfl); have t1 := ((HGT.out.bel hb).cell 1).trans (show _ = some (.int .i64 le) from rfl); have t2 := ((HGT.out.bel hb).cell 2).trans (show _ = some (.int .i64 si) from rfl); clear hb _f f3))
          go_ret
          rw [HV.out]
          exact ⟨rfl, HB1.out⟩
        have d2 : decide (le ≤ 65535) = true := decide_eq_true x2
        by_cases x3 : 1 ≤ si
        rotate_left
        · have d : decide (1 ≤ si) = false := decide_eq_false x3
          have HV : Hid (mayTypeB e ⟨fo, le, si, ⟨bm, bi⟩, fl⟩ = false) := Lib.hid (by rw [HM.out, decide_eq_false (fun q : arrHead ⟨fo, le, si, ⟨bm, bi⟩, fl⟩ => x3 q.2.2.1)]; rfl)
          clear hf1 hf2 hcb x1 x2 x3
          go_wp2_with (first | (have _f := f1; refine guard_off (by kernel_rfl) ?_; refine load_sep (cs := #[.string nm, .slice a1 l1.length c1, .slice a2 l2.length c2, .slice a3 l3.length c3]) rfl 26 (.tmp 2) rfl (Sep.one HGF.out) 0 rfl rfl Try.underlying26 rfl (by kernel_rfl) ?_; clear _f f1) | (have _f := f2; refine guard_off (by kernel_rfl) ?_; refine wpList_load_mid rfl 30 (.tmp 89) rfl (w.heap.size + 1) 3 rfl [.int .i64 bm, .int .i64 bi] _ (fun q y hy => (HGT.out.cell (3 + q)).trans (by match q, hy with | 0, hy => exact hy | 1, hy => exact hy)) Try.underlying30 rfl (by kernel_rfl) ?_; clear _f f2) | (have _f := f3; refine (HCF.out _ _ _ HRB.out HB0.out).mono ?_; rw [HCB.out]; rintro e' w1 ⟨rfl, hb⟩; have HB1 := Lib.hid (bel_then HB0.out hb); have t0 := ((HGT.out.bel hb).cell 0).trans (show _ = some (.int .i64 fo) from rfl); have t1 := ((HGT.out.bel hb).cell 1).trans (show _ = some (.int .i64 le) from rfl); have t2 := ((HGT.out.bel hb).cell 2).trans (show _ = some (.int .i64 si) from rfl); clear hb _f f3))
          go_ret
          rw [HV.out]
          exact ⟨rfl, HB1.out⟩
        have d3 : decide (1 ≤ si) = true := decide_eq_true x3
        by_cases x4 : si ≤ 262144
        rotate_left
        · have d : decide (si ≤ 262144) = false := decide_eq_false x4
          have HV : Hid (mayTypeB e ⟨fo, le, si, ⟨bm, bi⟩, fl⟩ = false) := Lib.hid (by rw [HM.out, decide_eq_false (fun q : arrHead ⟨fo, le, si, ⟨bm, bi⟩, fl⟩ => x4 q.2.2.2.1)]; rfl)
          clear hf1 hf2 hcb x1 x2 x3 x4
          go_wp2_with (first | (have _f := f1; refine guard_off (by kernel_rfl) ?_; refine load_sep (cs := #[.string nm, .slice a1 l1.length c1, .slice a2 l2.length c2, .slice a3 l3.length c3]) rfl 26 (.tmp 2) rfl (Sep.one HGF.out) 0 rfl rfl Try.underlying26 rfl (by kernel_rfl) ?_; clear _f f1) | (have _f := f2; refine guard_off (by kernel_rfl) ?_; refine wpList_load_mid rfl 30 (.tmp 89) rfl (w.heap.size + 1) 3 rfl [.int .i64 bm, .int .i64 bi] _ (fun q y hy => (HGT.out.cell (3 + q)).trans (by match q, hy with | 0, hy => exact hy | 1, hy => exact hy)) Try.underlying30 rfl (by kernel_rfl) ?_; clear _f f2) | (have _f := f3; refine (HCF.out _ _ _ HRB.out HB0.out).mono ?_; rw [HCB.out]; rintro e' w1 ⟨rfl, hb⟩; have HB1 := Lib.hid (bel_then HB0.out hb); have t0 := ((HGT.out.bel hb).cell 0).trans (show _ = some (.int .i64 fo) from rfl); have t1 := ((HGT.out.bel hb).cell 1).trans (show _ = some (.int .i64 le) from rfl); have t2 := ((HGT.out.bel hb).cell 2).trans (show _ = some (.int .i64 si) from rfl); clear hb _f f3))
          go_ret
          rw [HV.out]
          exact ⟨rfl, HB1.out⟩
        have d4 : decide (si ≤ 262144) = true := decide_eq_true x4
        have HV : Hid (mayTypeB e ⟨fo, le, si, ⟨bm, bi⟩, fl⟩ = true) := Lib.hid (by rw [HM.out, decide_eq_true (show arrHead ⟨fo, le, si, ⟨bm, bi⟩, fl⟩ from ⟨x1, x2, x3, x4, H5.out⟩)]; exact hcb)
        clear hf1 hf2 hcb x1 x2 x3 x4
        go_wp2_with (first | (have _f := f1; refine guard_off (by kernel_rfl) ?_; refine load_sep (cs := #[.string nm, .slice a1 l1.length c1, .slice a2 l2.length c2, .slice a3 l3.length c3]) rfl 26 (.tmp 2) rfl (Sep.one HGF.out) 0 rfl rfl Try.underlying26 rfl (by kernel_rfl) ?_; clear _f f1) | (have _f := f2; refine guard_off (by kernel_rfl) ?_; refine wpList_load_mid rfl 30 (.tmp 89) rfl (w.heap.size + 1) 3 rfl [.int .i64 bm, .int .i64 bi] _ (fun q y hy => (HGT.out.cell (3 + q)).trans (by match q, hy with | 0, hy => exact hy | 1, hy => exact hy)) Try.underlying30 rfl (by kernel_rfl) ?_; clear _f f2) | (have _f := f3; refine (HCF.out _ _ _ HRB.out HB0.out).mono ?_; rw [HCB.out]; rintro e' w1 ⟨rfl, hb⟩; have HB1 := Lib.hid (bel_then HB0.out hb); have t0 := ((HGT.out.bel hb).cell 0).trans (show _ = some (.int .i64 fo) from rfl); have t1 := ((HGT.out.bel hb).cell 1).trans (show _ = some (.int .i64 le) from rfl); have t2 := ((HGT.out.bel hb).cell 2).trans (show _ = some (.int .i64 si) from rfl); clear hb _f f3))
        go_ret
        rw [HV.out]
        exact ⟨rfl, HB1.out⟩
      have e1 : (fo == 1) = false := by rw [beq_eq_false_iff_ne]; exact hf1
      by_cases hf3 : fo = 3 ∨ fo = 4
      · have HM := Lib.hid (may_ptr (e := e) (t := ⟨fo, le, si, ⟨bm, bi⟩, fl⟩) hf3)
        dsimp only at HM
        by_cases x1 : le = 0
        rotate_left
        · have d : (le == 0) = false := by rw [beq_eq_false_iff_ne]; exact x1
          have HV : Hid (mayTypeB e ⟨fo, le, si, ⟨bm, bi⟩, fl⟩ = false) := Lib.hid (by rw [HM.out, decide_eq_false (fun q : bareT ⟨fo, le, si, ⟨bm, bi⟩, fl⟩ => x1 q.1)]; rfl)
          clear hf1 hf2 hcb x1
          rcases hf3 with hf3 | hf3
          · have e3 : (fo == 3) = true := by rw [hf3]; rfl
            have e4 : (fo == 4) = false := by rw [hf3]; rfl
            clear hf3
            go_wp2_with (first | (have _f := f1; refine guard_off (by kernel_rfl) ?_; refine load_sep (cs := #[.string nm, .slice a1 l1.length c1, .slice a2 l2.length c2, .slice a3 l3.length c3]) rfl 26 (.tmp 2) rfl (Sep.one HGF.out) 0 rfl rfl Try.underlying26 rfl (by kernel_rfl) ?_; clear _f f1) | (have _f := f2; refine guard_off (by kernel_rfl) ?_; refine wpList_load_mid rfl 30 (.tmp 89) rfl (w.heap.size + 1) 3 rfl [.int .i64 bm, .int .i64 bi] _ (fun q y hy => (HGT.out.cell (3 + q)).trans (by match q, hy with | 0, hy => exact hy | 1, hy => exact hy)) Try.underlying30 rfl (by kernel_rfl) ?_; clear _f f2) | (have _f := f3; refine (HCF.out _ _ _ HRB.out HB0.out).mono ?_; rw [HCB.out]; rintro e' w1 ⟨rfl, hb⟩; have HB1 := Lib.hid (bel_then HB0.out hb); have t0 := ((HGT.out.bel hb).cell 0).trans (show _ = some (.int .i64 fo) from rfl); have t1 := ((HGT.out.bel hb).cell 1).trans (show _ = some (.int .i64 le) from rfl); have t2 := ((HGT.out.bel hb).cell 2).trans (show _ = some (.int .i64 si) from rfl); clear hb _f f3))
            go_ret
            rw [HV.out]
            exact ⟨rfl, HB1.out⟩
          · have e3 : (fo == 3) = false := by rw [hf3]; rfl
            have e4 : (fo == 4) = true := by rw [hf3]; rfl
            clear hf3
            go_wp2_with (first | (have _f := f1; refine guard_off (by kernel_rfl) ?_; refine load_sep (cs := #[.string nm, .slice a1 l1.length c1, .slice a2 l2.length c2, .slice a3 l3.length c3]) rfl 26 (.tmp 2) rfl (Sep.one HGF.out) 0 rfl rfl Try.underlying26 rfl (by kernel_rfl) ?_; clear _f f1) | (have _f := f2; refine guard_off (by kernel_rfl) ?_; refine wpList_load_mid rfl 30 (.tmp 89) rfl (w.heap.size + 1) 3 rfl [.int .i64 bm, .int .i64 bi] _ (fun q y hy => (HGT.out.cell (3 + q)).trans (by match q, hy with | 0, hy => exact hy | 1, hy => exact hy)) Try.underlying30 rfl (by kernel_rfl) ?_; clear _f f2) | (have _f := f3; refine (HCF.out _ _ _ HRB.out HB0.out).mono ?_; rw [HCB.out]; rintro e' w1 ⟨rfl, hb⟩; have HB1 := Lib.hid (bel_then HB0.out hb); have t0 := ((HGT.out.bel hb).cell 0).trans (show _ = some (.int .i64 fo) from rfl); have t1 := ((HGT.out.bel hb).cell 1).trans (show _ = some (.int .i64 le) from rfl); have t2 := ((HGT.out.bel hb).cell 2).trans (show _ = some (.int .i64 si) from rfl); clear hb _f f3))
            go_ret
            rw [HV.out]
            exact ⟨rfl, HB1.out⟩
        have d1 : (le == 0) = true := by rw [x1]; rfl
        by_cases x2 : si = 0
        rotate_left
        · have d : (si == 0) = false := by rw [beq_eq_false_iff_ne]; exact x2
          have HV : Hid (mayTypeB e ⟨fo, le, si, ⟨bm, bi⟩, fl⟩ = false) := Lib.hid (by rw [HM.out, decide_eq_false (fun q : bareT ⟨fo, le, si, ⟨bm, bi⟩, fl⟩ => x2 q.2.1)]; rfl)
          clear hf1 hf2 hcb x1 x2
          rcases hf3 with hf3 | hf3
          · have e3 : (fo == 3) = true := by rw [hf3]; rfl
            have e4 : (fo == 4) = false := by rw [hf3]; rfl
            clear hf3
            go_wp2_with (first | (have _f := f1; refine guard_off (by kernel_rfl) ?_; refine load_sep (cs := #[.string nm, .slice a1 l1.length c1, .slice a2 l2.length c2, .slice a3 l3.length c3]) rfl 26 (.tmp 2) rfl (Sep.one HGF.out) 0 rfl rfl Try.underlying26 rfl (by kernel_rfl) ?_; clear _f f1) | (have _f := f2; refine guard_off (by kernel_rfl) ?_; refine wpList_load_mid rfl 30 (.tmp 89) rfl (w.heap.size + 1) 3 rfl [.int .i64 bm, .int .i64 bi] _ (fun q y hy => (HGT.out.cell (3 + q)).trans (by match q, hy with | 0, hy => exact hy | 1, hy => exact hy)) Try.underlying30 rfl (by kernel_rfl) ?_; clear _f f2) | (have _f := f3; refine (HCF.out _ _ _ HRB.out HB0.out).mono ?_; rw [HCB.out]; rintro e' w1 ⟨rfl, hb⟩; have HB1 := Lib.hid (bel_then HB0.out hb); have t0 := ((HGT.out.bel hb).cell 0).trans (show _ = some (.int .i64 fo) from rfl); have t1 := ((HGT.out.bel hb).cell 1).trans (show _ = some (.int .i64 le) from rfl); have t2 := ((HGT.out.bel hb).cell 2).trans (show _ = some (.int .i64 si) from rfl); clear hb _f f3))
            go_ret
            rw [HV.out]
            exact ⟨rfl, HB1.out⟩
          · have e3 : (fo == 3) = false := by rw [hf3]; rfl
            have e4 : (fo == 4) = true := by rw [hf3]; rfl
            clear hf3
            go_wp2_with (first | (have _f := f1; refine guard_off (by kernel_rfl) ?_; refine load_sep (cs := #[.string nm, .slice a1 l1.length c1, .slice a2 l2.length c2, .slice a3 l3.length c3]) rfl 26 (.tmp 2) rfl (Sep.one HGF.out) 0 rfl rfl Try.underlying26 rfl (by kernel_rfl) ?_; clear _f f1) | (have _f := f2; refine guard_off (by kernel_rfl) ?_; refine wpList_load_mid rfl 30 (.tmp 89) rfl (w.heap.size + 1) 3 rfl [.int .i64 bm, .int .i64 bi] _ (fun q y hy => (HGT.out.cell (3 + q)).trans (by match q, hy with | 0, hy => exact hy | 1, hy => exact hy)) Try.underlying30 rfl (by kernel_rfl) ?_; clear _f f2) | (have _f := f3; refine (HCF.out _ _ _ HRB.out HB0.out).mono ?_; rw [HCB.out]; rintro e' w1 ⟨rfl, hb⟩; have HB1 := Lib.hid (bel_then HB0.out hb); have t0 := ((HGT.out.bel hb).cell 0).trans (show _ = some (.int .i64 fo) from rfl); have t1 := ((HGT.out.bel hb).cell 1).trans (show _ = some (.int .i64 le) from rfl); have t2 := ((HGT.out.bel hb).cell 2).trans (show _ = some (.int .i64 si) from rfl); clear hb _f f3))
            go_ret
            rw [HV.out]
            exact ⟨rfl, HB1.out⟩
        have d2 : (si == 0) = true := by rw [x2]; rfl
        have HV : Hid (mayTypeB e ⟨fo, le, si, ⟨bm, bi⟩, fl⟩ = true) := Lib.hid (by rw [HM.out, decide_eq_true (show bareT ⟨fo, le, si, ⟨bm, bi⟩, fl⟩ from ⟨x1, x2, H5.out⟩)]; exact hcb)
        clear hf1 hf2 hcb x1 x2
        rcases hf3 with hf3 | hf3
        · have e3 : (fo == 3) = true := by rw [hf3]; rfl
          have e4 : (fo == 4) = false := by rw [hf3]; rfl
          clear hf3
          go_wp2_with (first | (have _f := f1; refine guard_off (by kernel_rfl) ?_; refine load_sep (cs := #[.string nm, .slice a1 l1.length c1, .slice a2 l2.length c2, .slice a3 l3.length c3]) rfl 26 (.tmp 2) rfl (Sep.one HGF.out) 0 rfl rfl Try.underlying26 rfl (by kernel_rfl) ?_; clear _f f1) | (have _f := f2; refine guard_off (by kernel_rfl) ?_; refine wpList_load_mid rfl 30 (.tmp 89) rfl (w.heap.size + 1) 3 rfl [.int .i64 bm, .int .i64 bi] _ (fun q y hy => (HGT.out.cell (3 + q)).trans (by match q, hy with | 0, hy => exact hy | 1, hy => exact hy)) Try.underlying30 rfl (by kernel_rfl) ?_; clear _f f2) | (have _f := f3; refine (HCF.out _ _ _ HRB.out HB0.out).mono ?_; rw [HCB.out]; rintro e' w1 ⟨rfl, hb⟩; have HB1 := Lib.hid (bel_then HB0.out hb); have t0 := ((HGT.out.bel hb).cell 0).trans (show _ = some (.int .i64 fo) from rfl); have t1 := ((HGT.out.bel hb).cell 1).trans (show _ = some (.int .i64 le) from rfl); have t2 := ((HGT.out.bel hb).cell 2).trans (show _ = some (.int .i64 si) from rfl); clear hb _f f3))
          go_ret
          rw [HV.out]
          exact ⟨rfl, HB1.out⟩
        · have e3 : (fo == 3) = false := by rw [hf3]; rfl
          have e4 : (fo == 4) = true := by rw [hf3]; rfl
          clear hf3
          go_wp2_with (first | (have _f := f1; refine guard_off (by kernel_rfl) ?_; refine load_sep (cs := #[.string nm, .slice a1 l1.length c1, .slice a2 l2.length c2, .slice a3 l3.length c3]) rfl 26 (.tmp 2) rfl (Sep.one HGF.out) 0 rfl rfl Try.underlying26 rfl (by kernel_rfl) ?_; clear _f f1) | (have _f := f2; refine guard_off (by kernel_rfl) ?_; refine wpList_load_mid rfl 30 (.tmp 89) rfl (w.heap.size + 1) 3 rfl [.int .i64 bm, .int .i64 bi] _ (fun q y hy => (HGT.out.cell (3 + q)).trans (by match q, hy with | 0, hy => exact hy | 1, hy => exact hy)) Try.underlying30 rfl (by kernel_rfl) ?_; clear _f f2) | (have _f := f3; refine (HCF.out _ _ _ HRB.out HB0.out).mono ?_; rw [HCB.out]; rintro e' w1 ⟨rfl, hb⟩; have HB1 := Lib.hid (bel_then HB0.out hb); have t0 := ((HGT.out.bel hb).cell 0).trans (show _ = some (.int .i64 fo) from rfl); have t1 := ((HGT.out.bel hb).cell 1).trans (show _ = some (.int .i64 le) from rfl); have t2 := ((HGT.out.bel hb).cell 2).trans (show _ = some (.int .i64 si) from rfl); clear hb _f f3))
          go_ret
          rw [HV.out]
          exact ⟨rfl, HB1.out⟩
      have HV : Hid (mayTypeB e ⟨fo, le, si, ⟨bm, bi⟩, fl⟩ = false) := Lib.hid (may_none hf1 hf2 (fun h => hf3 (.inl h)) (fun h => hf3 (.inr h)))
      have e3 : (fo == 3) = false := by rw [beq_eq_false_iff_ne]; exact fun h => hf3 (.inl h)
      have e4 : (fo == 4) = false := by rw [beq_eq_false_iff_ne]; exact fun h => hf3 (.inr h)
      clear hf1 hf2 hf3 hcb
      go_wp2_with (first | (have _f := f1; refine guard_off (by kernel_rfl) ?_; refine load_sep (cs := #[.string nm, .slice a1 l1.length c1, .slice a2 l2.length c2, .slice a3 l3.length c3]) rfl 26 (.tmp 2) rfl (Sep.one HGF.out) 0 rfl rfl Try.underlying26 rfl (by kernel_rfl) ?_; clear _f f1) | (have _f := f2; refine guard_off (by kernel_rfl) ?_; refine wpList_load_mid rfl 30 (.tmp 89) rfl (w.heap.size + 1) 3 rfl [.int .i64 bm, .int .i64 bi] _ (fun q y hy => (HGT.out.cell (3 + q)).trans (by match q, hy with | 0, hy => exact hy | 1, hy => exact hy)) Try.underlying30 rfl (by kernel_rfl) ?_; clear _f f2) | (have _f := f3; refine (HCF.out _ _ _ HRB.out HB0.out).mono ?_; rw [HCB.out]; rintro e' w1 ⟨rfl, hb⟩; have HB1 := Lib.hid (bel_then HB0.out hb); have t0 := ((HGT.out.bel hb).cell 0).trans (show _ = some (.int .i64 fo) from rfl); have t1 := ((HGT.out.bel hb).cell 1).trans (show _ = some (.int .i64 le) from rfl); have t2 := ((HGT.out.bel hb).cell 2).trans (show _ = some (.int .i64 si) from rfl); clear hb _f f3))
      go_ret
      rw [HV.out]
      exact ⟨rfl, HB1.out⟩
  obtain rfl : fo = 2 := Classical.not_not.1 hf2
  clear hf2
  have HM := Lib.hid (may_rec (e := e) (t := ⟨2, le, si, ⟨bm, bi⟩, fl⟩) rfl)
  dsimp only at HM
  go_wp2_with (fail)
  go_loopw [5] (fun i wr => ∃ k : Nat, k ≤ fl.length ∧ i = .int .i64 k ∧ FldTo e fl k ∧ Below ((w.alloc (.cells #[.string nm, .slice a1 l1.length c1, .slice a2 l2.length c2, .slice a3 l3.length c3] 26)).alloc (.cells #[.int .i64 2, .int .i64 le, .int .i64 si, .int .i64 bm, .int .i64 bi, .slice fa fl.length fcc] 34)).heap.size ((w.alloc (.cells #[.string nm, .slice a1 l1.length c1, .slice a2 l2.length c2, .slice a3 l3.length c3] 26)).alloc (.cells #[.int .i64 2, .int .i64 le, .int .i64 si, .int .i64 bm, .int .i64 bi, .slice fa fl.length fcc] 34)) wr) (fun i _ => fl.length - (intOf i).toNat)
  case atStart => exact ⟨0, Nat.zero_le _, rfl, FldTo.start e fl, Below.refl _ _⟩
  case round =>
    obtain ⟨wt, rfl⟩ : ∃ wt : World, wt = wr := ⟨_, rfl⟩
    obtain ⟨k, hk, rfl, hF, hB⟩ := hrel
    have HF := Lib.hid hF
    have HB := Lib.hid hB
    clear hF hB
    have HBW : Hid (Below w.heap.size w wt) := Lib.hid (bel_then HB0.out HB.out)
    have t1 := ((HGT.out.bel HB.out).cell 1).trans (show _ = some (.int .i64 le) from rfl)
    have t2 := ((HGT.out.bel HB.out).cell 2).trans (show _ = some (.int .i64 si) from rfl)
    have t3 := ((HGT.out.bel HB.out).cell 3).trans (show _ = some (.int .i64 bm) from rfl)
    have t4 := ((HGT.out.bel HB.out).cell 4).trans (show _ = some (.int .i64 bi) from rfl)
    have t5 := ((HGT.out.bel HB.out).cell 5).trans (show _ = some (.slice fa fl.length fcc) from rfl)
    by_cases hlt : k < fl.length
    · obtain ⟨⟨xn, xo, ⟨xm, xi⟩⟩, hx⟩ := get_lt hlt
      clear t1 t2 t3 t4
      obtain ⟨b, o, hat, hcell⟩ := HRF.out.at'
      dsimp only at hat hcell
      obtain ⟨rfl, hb⟩ := hat (by omega)
      clear hat
      have HCL := Lib.hid hcell
      have HBB := Lib.hid hb
      have HCO : Hid (∀ (q : Nat) (y : Value), ([.string xn, .int .i64 xo, .int .i64 xm, .int .i64 xi] : List Value)[q]? = some y → wt.cell? ⟨b, o + k * 4 + q, none⟩ = some y) := Lib.hid (fun q y hy => (HBW.out.cell (p := ⟨b, o + k * 4 + q, none⟩) hb).trans (hcell k _ hx q y hy))
      have hok := HRF.out.ok hx
      obtain ⟨o1, ⟨o2, o2'⟩, ⟨o3, o3'⟩, ⟨o4, o4'⟩⟩ := hok
      dsimp only at o1 o2 o2' o3 o3' o4 o4'
      have HO := Lib.hid o1
      have HXR : Hid (Rf.ok ⟨xm, xi⟩) := Lib.hid ⟨⟨o3, o3'⟩, o4, o4'⟩
      have HX := Lib.hid hx
      have HLT := Lib.hid hlt
      have hle := HRF.out.row.le
      dsimp only at hle
      have kl0 : (k : Int) ≤ fcc := by omega
      have kl2 : 0 < fcc := by omega
      have kl3 : ¬ fcc = 0 := by omega
      have HG1 := Lib.hid (HGF.out.bel HB.out)
      have HG2 := Lib.hid (HGT.out.bel HB.out)
      clear hx hcell hb o1 hle
      cases hm : mayName xn with
      | false =>
        have HMN := Lib.hid hm
        have HV : Hid (mayTypeB e ⟨2, le, si, ⟨bm, bi⟩, fl⟩ = false) := Lib.hid (by rw [HM.out, HF.out.bad HX.out (fld_name hm)]; rfl)
        clear hm
        go_wp2_with (first | (have _f := f3; refine wpList_load_mid rfl 37 (.tmp 21) rfl b (o + k * 4) rfl [.string xn, .int .i64 xo, .int .i64 xm, .int .i64 xi] _ HCO.out Try.underlying37 rfl (by kernel_rfl) ?_; clear _f f3) | (have _f := f4; refine alloc_sep rfl 37 rfl (HSN.out _) (z := .agg #[.string ⟨#[]⟩, .int .i64 0, .int .i64 0, .int .i64 0]) (cs := #[.string ⟨#[]⟩, .int .i64 0, .int .i64 0, .int .i64 0]) (by kernel_rfl) rfl ?_; intro wc S' b' s'; have HSc := Lib.hid S'; have HBc := Lib.hid b'; clear S' b' s' _f f4) | (have _f := f5; refine store_sep (cells := #[.string xn, .int .i64 xo, .int .i64 xm, .int .i64 xi]) rfl 37 (.tmp 6) (.tmp 22) rfl HSc.out 0 rfl rfl rfl (by kernel_rfl) rfl rfl ?_; intro we S' k' s'; have HAe : Hid (At we wt.heap.size #[.string xn, .int .i64 xo, .int .i64 xm, .int .i64 xi] 37) := Lib.hid (S'.at 0 rfl); have HBe : Hid (Below wt.heap.size wt we) := Lib.hid (((Ke.below (· = wt.heap.size) HBc.out).trans k').toBelow (fun i hi e => absurd e (Nat.ne_of_lt hi))); have HBWe := Lib.hid (bel_then HBW.out HBe.out); have HG1e := Lib.hid (HG1.out.bel HBe.out); have HG2e := Lib.hid (HG2.out.bel HBe.out); have y0 := (HAe.out.cell 0).trans (show _ = some (.string xn) from rfl); have y1 := (HAe.out.cell 1).trans (show _ = some (.int .i64 xo) from rfl); clear S' k' s' t5 _f f5) | (have _f := f6; refine (refMayName_any _ _ HO.out).mono ?_; rw [HMN.out]; rintro e' w' ⟨rfl, rfl⟩; clear _f f6))
        go_ret
        rw [HV.out]
        exact ⟨rfl, bel_then HBW.out HBe.out⟩
      | true =>
        have HMN := Lib.hid hm
        clear hm
        by_cases ho1 : xo < 0
        · have d1 : decide (xo < 0) = true := decide_eq_true ho1
          have HV : Hid (mayTypeB e ⟨2, le, si, ⟨bm, bi⟩, fl⟩ = false) := Lib.hid (by rw [HM.out, HF.out.bad HX.out (fld_off (by dsimp only; omega))]; rfl)
          go_wp2_with (first | (have _f := f3; refine wpList_load_mid rfl 37 (.tmp 21) rfl b (o + k * 4) rfl [.string xn, .int .i64 xo, .int .i64 xm, .int .i64 xi] _ HCO.out Try.underlying37 rfl (by kernel_rfl) ?_; clear _f f3) | (have _f := f4; refine alloc_sep rfl 37 rfl (HSN.out _) (z := .agg #[.string ⟨#[]⟩, .int .i64 0, .int .i64 0, .int .i64 0]) (cs := #[.string ⟨#[]⟩, .int .i64 0, .int .i64 0, .int .i64 0]) (by kernel_rfl) rfl ?_; intro wc S' b' s'; have HSc := Lib.hid S'; have HBc := Lib.hid b'; clear S' b' s' _f f4) | (have _f := f5; refine store_sep (cells := #[.string xn, .int .i64 xo, .int .i64 xm, .int .i64 xi]) rfl 37 (.tmp 6) (.tmp 22) rfl HSc.out 0 rfl rfl rfl (by kernel_rfl) rfl rfl ?_; intro we S' k' s'; have HAe : Hid (At we wt.heap.size #[.string xn, .int .i64 xo, .int .i64 xm, .int .i64 xi] 37) := Lib.hid (S'.at 0 rfl); have HBe : Hid (Below wt.heap.size wt we) := Lib.hid (((Ke.below (· = wt.heap.size) HBc.out).trans k').toBelow (fun i hi e => absurd e (Nat.ne_of_lt hi))); have HBWe := Lib.hid (bel_then HBW.out HBe.out); have HG1e := Lib.hid (HG1.out.bel HBe.out); have HG2e := Lib.hid (HG2.out.bel HBe.out); have y0 := (HAe.out.cell 0).trans (show _ = some (.string xn) from rfl); have y1 := (HAe.out.cell 1).trans (show _ = some (.int .i64 xo) from rfl); clear S' k' s' t5 _f f5) | (have _f := f6; refine (refMayName_any _ _ HO.out).mono ?_; rw [HMN.out]; rintro e' w' ⟨rfl, rfl⟩; clear _f f6))
          go_ret
          rw [HV.out]
          exact ⟨rfl, bel_then HBW.out HBe.out⟩
        have d1 : decide (xo < 0) = false := decide_eq_false ho1
        by_cases ho2 : 262144 < xo
        · have d2 : decide (262144 < xo) = true := decide_eq_true ho2
          have HV : Hid (mayTypeB e ⟨2, le, si, ⟨bm, bi⟩, fl⟩ = false) := Lib.hid (by rw [HM.out, HF.out.bad HX.out (fld_off (by dsimp only; omega))]; rfl)
          go_wp2_with (first | (have _f := f3; refine wpList_load_mid rfl 37 (.tmp 21) rfl b (o + k * 4) rfl [.string xn, .int .i64 xo, .int .i64 xm, .int .i64 xi] _ HCO.out Try.underlying37 rfl (by kernel_rfl) ?_; clear _f f3) | (have _f := f4; refine alloc_sep rfl 37 rfl (HSN.out _) (z := .agg #[.string ⟨#[]⟩, .int .i64 0, .int .i64 0, .int .i64 0]) (cs := #[.string ⟨#[]⟩, .int .i64 0, .int .i64 0, .int .i64 0]) (by kernel_rfl) rfl ?_; intro wc S' b' s'; have HSc := Lib.hid S'; have HBc := Lib.hid b'; clear S' b' s' _f f4) | (have _f := f5; refine store_sep (cells := #[.string xn, .int .i64 xo, .int .i64 xm, .int .i64 xi]) rfl 37 (.tmp 6) (.tmp 22) rfl HSc.out 0 rfl rfl rfl (by kernel_rfl) rfl rfl ?_; intro we S' k' s'; have HAe : Hid (At we wt.heap.size #[.string xn, .int .i64 xo, .int .i64 xm, .int .i64 xi] 37) := Lib.hid (S'.at 0 rfl); have HBe : Hid (Below wt.heap.size wt we) := Lib.hid (((Ke.below (· = wt.heap.size) HBc.out).trans k').toBelow (fun i hi e => absurd e (Nat.ne_of_lt hi))); have HBWe := Lib.hid (bel_then HBW.out HBe.out); have HG1e := Lib.hid (HG1.out.bel HBe.out); have HG2e := Lib.hid (HG2.out.bel HBe.out); have y0 := (HAe.out.cell 0).trans (show _ = some (.string xn) from rfl); have y1 := (HAe.out.cell 1).trans (show _ = some (.int .i64 xo) from rfl); clear S' k' s' t5 _f f5) | (have _f := f6; refine (refMayName_any _ _ HO.out).mono ?_; rw [HMN.out]; rintro e' w' ⟨rfl, rfl⟩; clear _f f6))
          go_ret
          rw [HV.out]
          exact ⟨rfl, bel_then HBW.out HBe.out⟩
        have d2 : decide (262144 < xo) = false := decide_eq_false ho2
        have HOF : Hid (0 ≤ xo ∧ xo ≤ 262144) := Lib.hid (by omega)
        clear ho1 ho2
        cases hcx : closedB e ⟨xm, xi⟩ with
        | false =>
          have HCX := Lib.hid hcx
          have HV : Hid (mayTypeB e ⟨2, le, si, ⟨bm, bi⟩, fl⟩ = false) := Lib.hid (by rw [HM.out, HF.out.bad HX.out (fld_base hcx)]; rfl)
          clear hcx
          go_wp2_with (first | (have _f := f3; refine wpList_load_mid rfl 37 (.tmp 21) rfl b (o + k * 4) rfl [.string xn, .int .i64 xo, .int .i64 xm, .int .i64 xi] _ HCO.out Try.underlying37 rfl (by kernel_rfl) ?_; clear _f f3) | (have _f := f4; refine alloc_sep rfl 37 rfl (HSN.out _) (z := .agg #[.string ⟨#[]⟩, .int .i64 0, .int .i64 0, .int .i64 0]) (cs := #[.string ⟨#[]⟩, .int .i64 0, .int .i64 0, .int .i64 0]) (by kernel_rfl) rfl ?_; intro wc S' b' s'; have HSc := Lib.hid S'; have HBc := Lib.hid b'; clear S' b' s' _f f4) | (have _f := f5; refine store_sep (cells := #[.string xn, .int .i64 xo, .int .i64 xm, .int .i64 xi]) rfl 37 (.tmp 6) (.tmp 22) rfl HSc.out 0 rfl rfl rfl (by kernel_rfl) rfl rfl ?_; intro we S' k' s'; have HAe : Hid (At we wt.heap.size #[.string xn, .int .i64 xo, .int .i64 xm, .int .i64 xi] 37) := Lib.hid (S'.at 0 rfl); have HBe : Hid (Below wt.heap.size wt we) := Lib.hid (((Ke.below (· = wt.heap.size) HBc.out).trans k').toBelow (fun i hi e => absurd e (Nat.ne_of_lt hi))); have HBWe := Lib.hid (bel_then HBW.out HBe.out); have HG1e := Lib.hid (HG1.out.bel HBe.out); have HG2e := Lib.hid (HG2.out.bel HBe.out); have y0 := (HAe.out.cell 0).trans (show _ = some (.string xn) from rfl); have y1 := (HAe.out.cell 1).trans (show _ = some (.int .i64 xo) from rfl); clear S' k' s' t5 _f f5) | (have _f := f6; refine (refMayName_any _ _ HO.out).mono ?_; rw [HMN.out]; rintro e' w' ⟨rfl, rfl⟩; clear _f f6) | refine guard_off (by kernel_rfl) ?_; refine load_sep (cs := #[.string nm, .slice a1 l1.length c1, .slice a2 l2.length c2, .slice a3 l3.length c3]) rfl 26 (.tmp 2) rfl (Sep.one HG1e.out) 0 rfl rfl Try.underlying26 rfl (by kernel_rfl) ?_ | (have _f := f7; refine guard_off (by kernel_rfl) ?_; refine wpList_load_mid rfl 30 (.tmp 39) rfl wt.heap.size 2 rfl [.int .i64 xm, .int .i64 xi] _ (fun q y hy => (HAe.out.cell (2 + q)).trans (by match q, hy with | 0, hy => exact hy | 1, hy => exact hy)) Try.underlying30 rfl (by kernel_rfl) ?_; clear _f f7) | (have _f := f2; refine (HCF.out xm xi _ HXR.out HBWe.out).mono ?_; rw [HCX.out]; rintro e' w1 ⟨rfl, hb⟩; have HB1 := Lib.hid (bel_then HBe.out hb); have HBW1 := Lib.hid (bel_then HBWe.out hb); have HG21 := Lib.hid (HG2e.out.bel hb); have HAe1 := Lib.hid (HAe.out.bel hb); clear hb y0 y1 _f f2))
          go_ret
          rw [HV.out]
          exact ⟨rfl, bel_then HBW.out HB1.out⟩
        | true =>
          have HCX := Lib.hid hcx
          clear hcx
          go_wp2_with (first | (have _f := f3; refine wpList_load_mid rfl 37 (.tmp 21) rfl b (o + k * 4) rfl [.string xn, .int .i64 xo, .int .i64 xm, .int .i64 xi] _ HCO.out Try.underlying37 rfl (by kernel_rfl) ?_; clear _f f3) | (have _f := f4; refine alloc_sep rfl 37 rfl (HSN.out _) (z := .agg #[.string ⟨#[]⟩, .int .i64 0, .int .i64 0, .int .i64 0]) (cs := #[.string ⟨#[]⟩, .int .i64 0, .int .i64 0, .int .i64 0]) (by kernel_rfl) rfl ?_; intro wc S' b' s'; have HSc := Lib.hid S'; have HBc := Lib.hid b'; clear S' b' s' _f f4) | (have _f := f5; refine store_sep (cells := #[.string xn, .int .i64 xo, .int .i64 xm, .int .i64 xi]) rfl 37 (.tmp 6) (.tmp 22) rfl HSc.out 0 rfl rfl rfl (by kernel_rfl) rfl rfl ?_; intro we S' k' s'; have HAe : Hid (At we wt.heap.size #[.string xn, .int .i64 xo, .int .i64 xm, .int .i64 xi] 37) := Lib.hid (S'.at 0 rfl); have HBe : Hid (Below wt.heap.size wt we) := Lib.hid (((Ke.below (· = wt.heap.size) HBc.out).trans k').toBelow (fun i hi e => absurd e (Nat.ne_of_lt hi))); have HBWe := Lib.hid (bel_then HBW.out HBe.out); have HG1e := Lib.hid (HG1.out.bel HBe.out); have HG2e := Lib.hid (HG2.out.bel HBe.out); have y0 := (HAe.out.cell 0).trans (show _ = some (.string xn) from rfl); have y1 := (HAe.out.cell 1).trans (show _ = some (.int .i64 xo) from rfl); clear S' k' s' t5 _f f5) | (have _f := f6; refine (refMayName_any _ _ HO.out).mono ?_; rw [HMN.out]; rintro e' w' ⟨rfl, rfl⟩; clear _f f6) | refine guard_off (by kernel_rfl) ?_; refine load_sep (cs := #[.string nm, .slice a1 l1.length c1, .slice a2 l2.length c2, .slice a3 l3.length c3]) rfl 26 (.tmp 2) rfl (Sep.one HG1e.out) 0 rfl rfl Try.underlying26 rfl (by kernel_rfl) ?_ | (have _f := f7; refine guard_off (by kernel_rfl) ?_; refine wpList_load_mid rfl 30 (.tmp 39) rfl wt.heap.size 2 rfl [.int .i64 xm, .int .i64 xi] _ (fun q y hy => (HAe.out.cell (2 + q)).trans (by match q, hy with | 0, hy => exact hy | 1, hy => exact hy)) Try.underlying30 rfl (by kernel_rfl) ?_; clear _f f7) | (have _f := f2; refine (HCF.out xm xi _ HXR.out HBWe.out).mono ?_; rw [HCX.out]; rintro e' w1 ⟨rfl, hb⟩; have HB1 := Lib.hid (bel_then HBe.out hb); have HBW1 := Lib.hid (bel_then HBWe.out hb); have HG21 := Lib.hid (HG2e.out.bel hb); have HAe1 := Lib.hid (HAe.out.bel hb); clear hb y0 y1 _f f2))
          go_loopw [7] (fun v wr => ∃ m : Nat, m ≤ k ∧ v = .int .i64 m ∧ (∀ j y, j < m → fl[j]? = some y → y.name ≠ xn) ∧ Below w1.heap.size w1 wr) (fun v _ => k - (intOf v).toNat)
          case atStart => exact ⟨0, Nat.zero_le _, rfl, fun j y h => by omega, Below.refl _ _⟩
          case round =>
            obtain ⟨m, hm, rfl, hJ, hbr⟩ := hrel
            have HJ := Lib.hid hJ
            have HBr := Lib.hid hbr
            clear hJ hbr
            by_cases hlm : m < k
            · obtain ⟨⟨yn, yo, ⟨ym, yi⟩⟩, hy⟩ := get_lt (l := fl) (i := m) (by have := HLT.out; omega)
              have c1 : wr.cell? ⟨w.heap.size + 1, 5, none⟩ = some (.slice (some ⟨b, o, none⟩) fl.length fcc) := ((HG21.out.bel HBr.out).cell 5).trans rfl
              have c2 : wr.cell? ⟨wt.heap.size, 0, none⟩ = some (.string xn) := ((HAe1.out.bel HBr.out).cell 0).trans rfl
              have c3 : wr.cell? ⟨b, o + m * 4, none⟩ = some (.string yn) := ((bel_then HBW1.out HBr.out).cell (p := ⟨b, o + m * 4, none⟩) HBB.out).trans (HCL.out m _ hy 0 _ rfl)
              have HY := Lib.hid hy
              have HLM := Lib.hid hlm
              have ml : (m : Int) < fl.length := by have := HLT.out; omega
              have ml2 : m < fl.length := by have := HLT.out; omega
              clear hy
              by_cases hyn : yn = xn
              · have HV : Hid (mayTypeB e ⟨2, le, si, ⟨bm, bi⟩, fl⟩ = false) := Lib.hid (by rw [HM.out, HF.out.twice HX.out (seen_yes HLM.out HY.out hyn)]; rfl)
                have hq1 := str_same hyn
                clear hyn
                go_wp2_with fail
                go_quiet (fail)
                go_wp2_with fail
                go_ret
                rw [HV.out]
                exact ⟨rfl, (bel_then HBW1.out HBr.out).drewN' _⟩
              · have hq2 := str_other hyn
                have HYN := Lib.hid hyn
                clear hyn
                go_wp2_with fail
                go_quiet (fail)
                go_wp2_with fail
                go_roundw
                case rel =>
                  refine ⟨m + 1, HLM.out, by go_num, fun j z hj hz => ?_, HBr.out.drewN' _⟩
                  rcases Nat.lt_or_ge j m with h | h
                  · exact HJ.out j z h hz
                  · obtain rfl : j = m := by omega
                    rw [HY.out] at hz; cases hz; exact HYN.out
                case measure => simp [intOf]; have := HLM.out; omega
            · obtain rfl : m = k := by omega
              have HN : Hid (FldTo e fl (m + 1)) := Lib.hid (HF.out.next HX.out (fld_yes HMN.out HOF.out HCX.out) (seen_no HJ.out))
              go_wp2_with fail
              go_roundw
              case rel => exact ⟨m + 1, HLT.out, by go_num, HN.out, bel_then HB.out (bel_then HB1.out HBr.out)⟩
              case measure => simp [intOf]; have := HLT.out; omega
    · have HD : Hid (mayTypeB e ⟨2, le, si, ⟨bm, bi⟩, fl⟩ = recEnd ⟨2, le, si, ⟨bm, bi⟩, fl⟩) := Lib.hid (by rw [HM.out, HF.out.done (by omega)]; rfl)
      clear hk
      by_cases x1 : le = 0
      rotate_left
      · have d : (le == 0) = false := by rw [beq_eq_false_iff_ne]; exact x1
        have HE : Hid (recEnd ⟨2, le, si, ⟨bm, bi⟩, fl⟩ = false) := Lib.hid (recEnd_no (fun q => x1 q.1))
        clear x1
        go_wp2
        go_ret
        rw [HD.out, HE.out]
        exact ⟨rfl, HBW.out⟩
      have d1 : (le == 0) = true := by rw [x1]; rfl
      by_cases x2 : bm = 0
      rotate_left
      · have d : (bm == 0) = false := by rw [beq_eq_false_iff_ne]; exact x2
        have HE : Hid (recEnd ⟨2, le, si, ⟨bm, bi⟩, fl⟩ = false) := Lib.hid (recEnd_no (fun q => x2 q.2.1))
        clear x1 x2
        go_wp2
        go_ret
        rw [HD.out, HE.out]
        exact ⟨rfl, HBW.out⟩
      have d2 : (bm == 0) = true := by rw [x2]; rfl
      by_cases x3 : bi = 0
      rotate_left
      · have d : (bi == 0) = false := by rw [beq_eq_false_iff_ne]; exact x3
        have HE : Hid (recEnd ⟨2, le, si, ⟨bm, bi⟩, fl⟩ = false) := Lib.hid (recEnd_no (fun q => x3 q.2.2.1))
        clear x1 x2 x3
        go_wp2
        go_ret
        rw [HD.out, HE.out]
        exact ⟨rfl, HBW.out⟩
      have d3 : (bi == 0) = true := by rw [x3]; rfl
      by_cases x4 : 1 ≤ si
      rotate_left
      · have d : decide (1 ≤ si) = false := decide_eq_false x4
        have HE : Hid (recEnd ⟨2, le, si, ⟨bm, bi⟩, fl⟩ = false) := Lib.hid (recEnd_no (fun q => x4 q.2.2.2.1))
        clear x1 x2 x3 x4
        go_wp2
        go_ret
        rw [HD.out, HE.out]
        exact ⟨rfl, HBW.out⟩
      have d4 : decide (1 ≤ si) = true := decide_eq_true x4
      by_cases x5 : si ≤ 262144
      rotate_left
      · have d : decide (si ≤ 262144) = false := decide_eq_false x5
        have HE : Hid (recEnd ⟨2, le, si, ⟨bm, bi⟩, fl⟩ = false) := Lib.hid (recEnd_no (fun q => x5 q.2.2.2.2))
        clear x1 x2 x3 x4 x5
        go_wp2
        go_ret
        rw [HD.out, HE.out]
        exact ⟨rfl, HBW.out⟩
      have d5 : decide (si ≤ 262144) = true := decide_eq_true x5
      have HE := Lib.hid (recEnd_yes (t := ⟨2, le, si, ⟨bm, bi⟩, fl⟩) ⟨x1, x2, x3, x4, x5⟩)
      dsimp only at HE
      clear x1 x2 x3 x4 x5
      go_wp2
      go_ret
      rw [HD.out, HE.out]
      exact ⟨rfl, HBW.out⟩
end Go.Proofs.Ytfnibpkojhgflaa
