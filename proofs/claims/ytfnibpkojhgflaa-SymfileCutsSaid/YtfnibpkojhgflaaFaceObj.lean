/- Contract: may an object be (symfile.mayObject). Printed by bin/gen_symobj.py. -/
import Derived.Test.YtfnibpkojhgflaaFaceA
import Derived.Laws.EntriesVeiled
namespace Go.Proofs.Ytfnibpkojhgflaa
set_option linter.unusedVariables false
set_option linter.unusedSimpArgs false
open Go.RowKit

theorem mo_name {e : Env} {o : ODD} (h : mayName o.name = false) : mayObjB e o = false := by unfold mayObjB; rw [h]; rfl
theorem mo_params {e : Env} {o : ODD} (h : o.cls ≠ 4) (h2 : 0 < o.params.length) : mayObjB e o = false := by
  unfold mayObjB; rw [if_neg h, decide_eq_false (by omega)]; simp
theorem mo_const {e : Env} {o : ODD} (h1 : mayName o.name = true) (h : o.cls = 1) (h2 : o.params.length = 0) : mayObjB e o = constOk o := by
  unfold mayObjB; rw [h1, if_neg (by rw [h]; decide), decide_eq_true h2, if_pos h]; rfl
theorem mo_var {e : Env} {o : ODD} (h1 : mayName o.name = true) (h : o.cls = 3) (h2 : o.params.length = 0) : mayObjB e o = (decide (o.value ≤ 262144) && closedB e o.base) := by
  unfold mayObjB; rw [h1, if_neg (by rw [h]; decide), decide_eq_true h2, if_neg (by rw [h]; decide), if_pos h]; rfl
theorem mo_type {e : Env} {o : ODD} (h1 : mayName o.name = true) (h : o.cls = 2) (h2 : o.params.length = 0) : mayObjB e o = (decide (o.value = 0) && closedB e o.base) := by
  unfold mayObjB; rw [h1, if_neg (by rw [h]; decide), decide_eq_true h2, if_neg (by rw [h]; decide), if_neg (by rw [h]; decide), if_pos h]; rfl
def procHead (o : ODD) : Prop := 1 ≤ o.value ∧ o.value ≤ 200 ∧ o.params.length ≤ 12
theorem mo_proc {e : Env} {o : ODD} (h1 : mayName o.name = true) (h : o.cls = 4) : mayObjB e o = (decide (1 ≤ o.value ∧ o.value ≤ 200 ∧ o.params.length ≤ 12) && o.params.all (fun p => refB e p.base) && (noRef o.base || closedB e o.base)) := by
  unfold mayObjB; rw [h1, if_pos h]; rfl
theorem mo_none {e : Env} {o : ODD} (h1 : o.cls ≠ 1) (h2 : o.cls ≠ 2) (h3 : o.cls ≠ 3) (h4 : o.cls ≠ 4) : mayObjB e o = false := by
  unfold mayObjB; rw [if_neg h4, if_neg h1, if_neg h3, if_neg h2]; simp
theorem const_mod {o : ODD} (h : o.base.mod ≠ 0) : constOk o = false := decide_eq_false (fun q => h q.1)
theorem const_2 {o : ODD} (h : o.base.mod = 0) (h2 : o.base.idx = 2) : constOk o = decide (o.value ≤ 1) := decide_eq_decide.2 (by omega)
theorem const_3 {o : ODD} (h : o.base.mod = 0) (h2 : o.base.idx = 3) : constOk o = decide (o.value ≤ 255) := decide_eq_decide.2 (by omega)
theorem const_15 {o : ODD} (h : o.base.mod = 0) (h2 : o.base.idx = 1 ∨ o.base.idx = 5) : constOk o = true := decide_eq_true (by omega)
theorem const_no {o : ODD} (h1 : o.base.idx ≠ 1) (h2 : o.base.idx ≠ 2) (h3 : o.base.idx ≠ 3) (h5 : o.base.idx ≠ 5) : constOk o = false := decide_eq_false (by omega)
theorem all_any {α : Type} (l : List α) (p : α → Bool) : l.all p = !(l.any fun x => !p x) := by
  induction l with
  | nil => rfl
  | cons x l ih => rw [List.all_cons, List.any_cons, ih]; cases p x <;> rfl

/-- the closure: is a parameter's type none. -/
theorem paramBad_walk (x : Prm) (g : Nat) (nm : ByteArray) (a1 a2 a3 : Option Addr) (n1 n2 n3 c1 c2 c3 : Nat) (w : World) (e : Env) (h1 : e.ni = n1) (h2 : e.forms.length = n2) (hn1 : n1 ≤ 9223372036854775807) (hn2 : n2 ≤ 9223372036854775807) (hx : x.base.ok)
    (hg : At w g #[.string nm, .slice a1 n1 c1, .slice a2 n2 c2, .slice a3 n3 c3] 26) :
    Calls Try.prog 60 #[.agg (prmD.cells x).toArray, .pointer (some ⟨g, 0, none⟩)] w fun e' w' => e' = .returned (.bool (!refB e x.base)) ∧ Below w.heap.size w w' := by
  obtain ⟨v, ⟨m, i⟩⟩ := x
  show Calls _ _ #[.agg #[.bool v, .int .i64 m, .int .i64 i], .pointer (some ⟨g, 0, none⟩)] w _
  have HR := Lib.hid (fun W => ref_walk nm a1 a2 a3 n1 n2 n3 c1 c2 c3 m i W e h1 h2 hn1 hn2 hx)
  have HG := Lib.hid (hg.old (.cells #[.bool v, .int .i64 m, .int .i64 i] 97))
  have HA := Lib.hid (At.new w #[.bool v, .int .i64 m, .int .i64 i] 97)
  have HB := Lib.hid (bel1 w (.cells #[.bool v, .int .i64 m, .int .i64 i] 97))
  clear hg h1 h2 hn1 hn2 hx
  have f1 : True := trivial
  have f2 : True := trivial
  go_enter Try.func60, Try.ntmps60
  go_wp2_with (first | (have _f := f1; refine load_sep (cs := #[.string nm, .slice a1 n1 c1, .slice a2 n2 c2, .slice a3 n3 c3]) rfl 26 (.tmp 1) rfl (Sep.one HG.out) 0 rfl rfl Try.underlying26 rfl (by kernel_rfl) ?_; clear _f f1) | (have _f := f2; refine (HR.out _).mono ?_; rintro e' w1 ⟨rfl, hb⟩; have HB1 := Lib.hid (bel_then HB.out hb); clear hb _f f2))
  go_ret
  exact ⟨rfl, HB1.out⟩

set_option maxRecDepth 100000 in
set_option maxHeartbeats 16000000 in
theorem mayObject_walk (f : Fc) (t : FO) (w : World) (h : f.Rd w) (ht : foD.ok w t) (hn2 : f.types.l.length ≤ 100000000000) :
    Calls Try.prog 25 #[f.val, .agg (foD.cells t).toArray] w fun e' w' => e' = .returned (.bool (mayObjB f.d.env t.d)) ∧ Below w.heap.size w w' := by
  have HCL : Hid (∀ (r : Rf) (W : World), r.ok → Below w.heap.size w W → Calls Try.prog 55 #[f.val, r.val] W fun e' w' => e' = .returned (.bool (closedB f.d.env r)) ∧ Below W.heap.size W w') := Lib.hid (fun r W hr k => closed_walk f r W (h.bel k) hr hn2)
  have HEN := Lib.hid (And.intro (env_ni f) (env_len f))
  have i1 := h.imps.len
  obtain ⟨q1, q2, q3, q4, q5⟩ := ht
  obtain ⟨e, he⟩ : ∃ e, e = f.d.env := ⟨_, rfl⟩
  rw [← he] at HCL HEN ⊢
  clear he h
  obtain ⟨nm, ⟨a1, c1, l1⟩, ⟨a2, c2, l2⟩, ⟨a3, c3, l3⟩⟩ := f
  obtain ⟨cl, on, ⟨bm, bi⟩, va, ⟨pa, pc, pl⟩⟩ := t
  show Calls _ _ #[.agg #[.string nm, .slice a1 l1.length c1, .slice a2 l2.length c2, .slice a3 l3.length c3], .agg #[.int .i64 cl, .string on, .int .i64 bm, .int .i64 bi, .int .u32 va, .slice pa pl.length pc]] w fun e' w' => e' = .returned (.bool (mayObjB e ⟨cl, on, ⟨bm, bi⟩, va, pl⟩)) ∧ _
  dsimp only at q1 q2 q3 q4 q5 i1 hn2 HEN
  have HCF : Hid (∀ (m i : Int) (W : World), Rf.ok ⟨m, i⟩ → Below w.heap.size w W → Calls Try.prog 55 #[.agg #[.string nm, .slice a1 l1.length c1, .slice a2 l2.length c2, .slice a3 l3.length c3], .agg #[.int .i64 m, .int .i64 i]] W fun e' w' => e' = .returned (.bool (closedB e ⟨m, i⟩)) ∧ Below W.heap.size W w') := Lib.hid (fun m i W hr k => HCL.out ⟨m, i⟩ W hr k)
  clear HCL
  have HI1 := Lib.hid i1
  have HN2 := Lib.hid hn2
  have hpl := q5.len
  dsimp only at hpl
  have HRP : Hid (Rows prmD w ⟨pa, pc, pl⟩) := Lib.hid q5
  have HRB : Hid (Rf.ok ⟨bm, bi⟩) := Lib.hid q3
  have HON := Lib.hid q2
  clear q5 q2 i1 hn2
  obtain ⟨q1, q1'⟩ := q1
  obtain ⟨⟨q3, q3'⟩, q5, q5'⟩ := q3
  obtain ⟨q4, q4'⟩ := q4
  dsimp only at q3 q3' q5 q5'
  have HB0 : Hid (Below w.heap.size w ((w.alloc (.cells #[.string nm, .slice a1 l1.length c1, .slice a2 l2.length c2, .slice a3 l3.length c3] 26)).alloc (.cells #[.int .i64 cl, .string on, .int .i64 bm, .int .i64 bi, .int .u32 va, .slice pa pl.length pc] 42))) := Lib.hid (bel2 w _ _)
  have HGF : Hid (At ((w.alloc (.cells #[.string nm, .slice a1 l1.length c1, .slice a2 l2.length c2, .slice a3 l3.length c3] 26)).alloc (.cells #[.int .i64 cl, .string on, .int .i64 bm, .int .i64 bi, .int .u32 va, .slice pa pl.length pc] 42)) w.heap.size #[.string nm, .slice a1 l1.length c1, .slice a2 l2.length c2, .slice a3 l3.length c3] 26) := Lib.hid ((At.new w _ 26).old _)
  have HGO : Hid (At ((w.alloc (.cells #[.string nm, .slice a1 l1.length c1, .slice a2 l2.length c2, .slice a3 l3.length c3] 26)).alloc (.cells #[.int .i64 cl, .string on, .int .i64 bm, .int .i64 bi, .int .u32 va, .slice pa pl.length pc] 42)) (w.heap.size + 1) #[.int .i64 cl, .string on, .int .i64 bm, .int .i64 bi, .int .u32 va, .slice pa pl.length pc] 42) := Lib.hid (by have := At.new (w.alloc (.cells #[.string nm, .slice a1 l1.length c1, .slice a2 l2.length c2, .slice a3 l3.length c3] 26)) #[.int .i64 cl, .string on, .int .i64 bm, .int .i64 bi, .int .u32 va, .slice pa pl.length pc] 42; rwa [show (w.alloc (.cells #[.string nm, .slice a1 l1.length c1, .slice a2 l2.length c2, .slice a3 l3.length c3] 26)).heap.size = w.heap.size + 1 by simp] at this)
  have f1 : True := trivial
  have f2 : True := trivial
  have f3 : True := trivial
  have f4 : True := trivial
  have f5 : True := trivial
  cases hm : mayName on with
  | false =>
    have HMN := Lib.hid hm
    have HV : Hid (mayObjB e ⟨cl, on, ⟨bm, bi⟩, va, pl⟩ = false) := Lib.hid (mo_name hm)
    clear hm
    go_enter Try.func25, Try.ntmps25
    go_wp2_with (first | (have _f := f1; refine (mayName_any _ _ HON.out).mono ?_; rw [HMN.out]; rintro e' w' ⟨rfl, rfl⟩; clear _f f1))
    go_ret
    rw [HV.out]
    exact ⟨rfl, HB0.out⟩
  | true =>
  have HMN := Lib.hid hm
  clear hm
  by_cases hc4 : cl = 4
  · subst hc4
    have HMO := Lib.hid (mo_proc (e := e) (o := ⟨4, on, ⟨bm, bi⟩, va, pl⟩) HMN.out rfl)
    dsimp only at HMO
    obtain ⟨bad, hbad⟩ : ∃ bad, pl.any (fun x => !refB e x.base) = bad := ⟨_, rfl⟩
    have HBAD := Lib.hid hbad
    clear hbad
    have HCT : Hid (∀ W, Below ((w.alloc (.cells #[.string nm, .slice a1 l1.length c1, .slice a2 l2.length c2, .slice a3 l3.length c3] 26)).alloc (.cells #[.int .i64 4, .string on, .int .i64 bm, .int .i64 bi, .int .u32 va, .slice pa pl.length pc] 42)).heap.size ((w.alloc (.cells #[.string nm, .slice a1 l1.length c1, .slice a2 l2.length c2, .slice a3 l3.length c3] 26)).alloc (.cells #[.int .i64 4, .string on, .int .i64 bm, .int .i64 bi, .int .u32 va, .slice pa pl.length pc] 42)) W → Calls Try.prog 59 #[.slice pa pl.length pc, .func (.func 60) #[] #[.pointer (some ⟨w.heap.size, 0, none⟩)]] W fun e w' => e = .returned (.bool bad) ∧ Below W.heap.size W w') := Lib.hid (fun W k => by
      rw [← HBAD.out]
      exact containsPrm_walk ⟨pa, pc, pl⟩ _ (fun x => !refB e x.base) W (HRP.out.bel (bel_then HB0.out k)) (fun x V hx hV => paramBad_walk x w.heap.size nm a1 a2 a3 l1.length l2.length l3.length c1 c2 c3 V e HEN.out.1 HEN.out.2 HI1.out (by have := HN2.out; omega) (HRP.out.all x hx) ((HGF.out.bel k).bel hV)))
    by_cases x1 : 1 ≤ va
    rotate_left
    · have d : decide (1 ≤ va) = false := decide_eq_false x1
      have HV : Hid (mayObjB e ⟨4, on, ⟨bm, bi⟩, va, pl⟩ = false) := Lib.hid (by rw [HMO.out, decide_eq_false (fun q => x1 (by have := q.1; omega))]; rfl)
      clear x1
      go_enter Try.func25, Try.ntmps25
      go_wp2_with (first | (have _f := f1; refine (mayName_any _ _ HON.out).mono ?_; rw [HMN.out]; rintro e' w' ⟨rfl, rfl⟩; clear _f f1) | (have _f := f3; refine (HCT.out _ (Below.refl _ _)).mono ?_; rintro e' wc ⟨rfl, hb⟩; have HBC := Lib.hid (bel_then HB0.out hb); have HGFc := Lib.hid (HGF.out.bel hb); have HGOc := Lib.hid (HGO.out.bel hb); have t2 := (HGOc.out.cell 2).trans (show _ = some (.int .i64 bm) from rfl); have t3 := (HGOc.out.cell 3).trans (show _ = some (.int .i64 bi) from rfl); have t4 := (HGOc.out.cell 4).trans (show _ = some (.int .u32 va) from rfl); have t5 := (HGOc.out.cell 5).trans (show _ = some (.slice pa pl.length pc) from rfl); clear hb _f f3))
      go_ret
      rw [HV.out]
      exact ⟨rfl, HBC.out⟩
    have d1 : decide (1 ≤ va) = true := decide_eq_true x1
    by_cases x2 : va ≤ 200
    rotate_left
    · have d : decide (va ≤ 200) = false := decide_eq_false x2
      have HV : Hid (mayObjB e ⟨4, on, ⟨bm, bi⟩, va, pl⟩ = false) := Lib.hid (by rw [HMO.out, decide_eq_false (fun q => x2 (by have := q.2.1; omega))]; rfl)
      clear x1 x2
      go_enter Try.func25, Try.ntmps25
      go_wp2_with (first | (have _f := f1; refine (mayName_any _ _ HON.out).mono ?_; rw [HMN.out]; rintro e' w' ⟨rfl, rfl⟩; clear _f f1) | (have _f := f3; refine (HCT.out _ (Below.refl _ _)).mono ?_; rintro e' wc ⟨rfl, hb⟩; have HBC := Lib.hid (bel_then HB0.out hb); have HGFc := Lib.hid (HGF.out.bel hb); have HGOc := Lib.hid (HGO.out.bel hb); have t2 := (HGOc.out.cell 2).trans (show _ = some (.int .i64 bm) from rfl); have t3 := (HGOc.out.cell 3).trans (show _ = some (.int .i64 bi) from rfl); have t4 := (HGOc.out.cell 4).trans (show _ = some (.int .u32 va) from rfl); have t5 := (HGOc.out.cell 5).trans (show _ = some (.slice pa pl.length pc) from rfl); clear hb _f f3))
      go_ret
      rw [HV.out]
      exact ⟨rfl, HBC.out⟩
    have d2 : decide (va ≤ 200) = true := decide_eq_true x2
    by_cases x3 : (pl.length : Int) ≤ 12
    rotate_left
    · have d : decide ((pl.length : Int) ≤ 12) = false := decide_eq_false x3
      have HV : Hid (mayObjB e ⟨4, on, ⟨bm, bi⟩, va, pl⟩ = false) := Lib.hid (by rw [HMO.out, decide_eq_false (fun q => x3 (by have := q.2.2; omega))]; rfl)
      clear x1 x2 x3
      go_enter Try.func25, Try.ntmps25
      go_wp2_with (first | (have _f := f1; refine (mayName_any _ _ HON.out).mono ?_; rw [HMN.out]; rintro e' w' ⟨rfl, rfl⟩; clear _f f1) | (have _f := f3; refine (HCT.out _ (Below.refl _ _)).mono ?_; rintro e' wc ⟨rfl, hb⟩; have HBC := Lib.hid (bel_then HB0.out hb); have HGFc := Lib.hid (HGF.out.bel hb); have HGOc := Lib.hid (HGO.out.bel hb); have t2 := (HGOc.out.cell 2).trans (show _ = some (.int .i64 bm) from rfl); have t3 := (HGOc.out.cell 3).trans (show _ = some (.int .i64 bi) from rfl); have t4 := (HGOc.out.cell 4).trans (show _ = some (.int .u32 va) from rfl); have t5 := (HGOc.out.cell 5).trans (show _ = some (.slice pa pl.length pc) from rfl); clear hb _f f3))
      go_ret
      rw [HV.out]
      exact ⟨rfl, HBC.out⟩
    have d3 : decide ((pl.length : Int) ≤ 12) = true := decide_eq_true x3
    have HH : Hid (decide (1 ≤ va ∧ va ≤ 200 ∧ pl.length ≤ 12) = true) := Lib.hid (decide_eq_true ⟨x1, x2, by omega⟩)
    clear x1 x2 x3
    cases bad with
    | true =>
      have HV : Hid (mayObjB e ⟨4, on, ⟨bm, bi⟩, va, pl⟩ = false) := Lib.hid (by rw [HMO.out, HH.out, all_any, HBAD.out]; rfl)
      go_enter Try.func25, Try.ntmps25
      go_wp2_with (first | (have _f := f1; refine (mayName_any _ _ HON.out).mono ?_; rw [HMN.out]; rintro e' w' ⟨rfl, rfl⟩; clear _f f1) | (have _f := f3; refine (HCT.out _ (Below.refl _ _)).mono ?_; rintro e' wc ⟨rfl, hb⟩; have HBC := Lib.hid (bel_then HB0.out hb); have HGFc := Lib.hid (HGF.out.bel hb); have HGOc := Lib.hid (HGO.out.bel hb); have t2 := (HGOc.out.cell 2).trans (show _ = some (.int .i64 bm) from rfl); have t3 := (HGOc.out.cell 3).trans (show _ = some (.int .i64 bi) from rfl); have t4 := (HGOc.out.cell 4).trans (show _ = some (.int .u32 va) from rfl); have t5 := (HGOc.out.cell 5).trans (show _ = some (.slice pa pl.length pc) from rfl); clear hb _f f3))
      go_ret
      rw [HV.out]
      exact ⟨rfl, HBC.out⟩
    | false =>
      have HALL : Hid (pl.all (fun p => refB e p.base) = true) := Lib.hid (by rw [all_any, HBAD.out]; rfl)
      by_cases xm : bm = 0
      · by_cases xi : bi = 0
        · have d4 : (bm == 0) = true := by rw [xm]; rfl
          have d5 : (bi == 0) = true := by rw [xi]; rfl
          have HV : Hid (mayObjB e ⟨4, on, ⟨bm, bi⟩, va, pl⟩ = true) := Lib.hid (by rw [HMO.out, HH.out, HALL.out]; unfold noRef; rw [decide_eq_true (And.intro xm xi)]; rfl)
          clear xm xi
          go_enter Try.func25, Try.ntmps25
          go_wp2_with (first | (have _f := f1; refine (mayName_any _ _ HON.out).mono ?_; rw [HMN.out]; rintro e' w' ⟨rfl, rfl⟩; clear _f f1) | (have _f := f3; refine (HCT.out _ (Below.refl _ _)).mono ?_; rintro e' wc ⟨rfl, hb⟩; have HBC := Lib.hid (bel_then HB0.out hb); have HGFc := Lib.hid (HGF.out.bel hb); have HGOc := Lib.hid (HGO.out.bel hb); have t2 := (HGOc.out.cell 2).trans (show _ = some (.int .i64 bm) from rfl); have t3 := (HGOc.out.cell 3).trans (show _ = some (.int .i64 bi) from rfl); have t4 := (HGOc.out.cell 4).trans (show _ = some (.int .u32 va) from rfl); have t5 := (HGOc.out.cell 5).trans (show _ = some (.slice pa pl.length pc) from rfl); clear hb _f f3))
          go_ret
          rw [HV.out]
          exact ⟨rfl, HBC.out⟩
        · have d4 : (bm == 0) = true := by rw [xm]; rfl
          have d5 : (bi == 0) = false := by rw [beq_eq_false_iff_ne]; exact xi
          have HV : Hid (mayObjB e ⟨4, on, ⟨bm, bi⟩, va, pl⟩ = closedB e ⟨bm, bi⟩) := Lib.hid (by rw [HMO.out, HH.out, HALL.out]; unfold noRef; rw [decide_eq_false (fun q => xi q.2)]; rfl)
          clear xm xi
          obtain ⟨cb, hcb⟩ : ∃ cb, closedB e ⟨bm, bi⟩ = cb := ⟨_, rfl⟩
          have HCB := Lib.hid hcb
          rw [hcb] at HV
          clear hcb
          go_enter Try.func25, Try.ntmps25
          go_wp2_with (first | (have _f := f1; refine (mayName_any _ _ HON.out).mono ?_; rw [HMN.out]; rintro e' w' ⟨rfl, rfl⟩; clear _f f1) | (have _f := f3; refine (HCT.out _ (Below.refl _ _)).mono ?_; rintro e' wc ⟨rfl, hb⟩; have HBC := Lib.hid (bel_then HB0.out hb); have HGFc := Lib.hid (HGF.out.bel hb); have HGOc := Lib.hid (HGO.out.bel hb); have t2 := (HGOc.out.cell 2).trans (show _ = some (.int .i64 bm) from rfl); have t3 := (HGOc.out.cell 3).trans (show _ = some (.int .i64 bi) from rfl); have t4 := (HGOc.out.cell 4).trans (show _ = some (.int .u32 va) from rfl); have t5 := (HGOc.out.cell 5).trans (show _ = some (.slice pa pl.length pc) from rfl); clear hb _f f3) | (have _f := f4; refine guard_off (by kernel_rfl) ?_; refine load_sep (cs := #[.string nm, .slice a1 l1.length c1, .slice a2 l2.length c2, .slice a3 l3.length c3]) rfl 26 (.tmp 2) rfl (Sep.one HGFc.out) 0 rfl rfl Try.underlying26 rfl (by kernel_rfl) ?_; clear _f f4) | (have _f := f5; refine guard_off (by kernel_rfl) ?_; refine wpList_load_mid rfl 30 (.tmp 98) rfl (w.heap.size + 1) 2 rfl [.int .i64 bm, .int .i64 bi] _ (fun q y hy => (HGOc.out.cell (2 + q)).trans (by match q, hy with | 0, hy => exact hy | 1, hy => exact hy)) Try.underlying30 rfl (by kernel_rfl) ?_; clear _f f5) | (have _f := f2; refine (HCF.out _ _ _ HRB.out HBC.out).mono ?_; rw [HCB.out]; rintro e' w1 ⟨rfl, hb⟩; have HB1 := Lib.hid (bel_then HBC.out hb); clear hb _f f2))
          go_ret
          rw [HV.out]
          exact ⟨rfl, HB1.out⟩
      · have d4 : (bm == 0) = false := by rw [beq_eq_false_iff_ne]; exact xm
        have HV : Hid (mayObjB e ⟨4, on, ⟨bm, bi⟩, va, pl⟩ = closedB e ⟨bm, bi⟩) := Lib.hid (by rw [HMO.out, HH.out, HALL.out]; unfold noRef; rw [decide_eq_false (fun q => xm q.1)]; rfl)
        clear xm
        obtain ⟨cb, hcb⟩ : ∃ cb, closedB e ⟨bm, bi⟩ = cb := ⟨_, rfl⟩
        have HCB := Lib.hid hcb
        rw [hcb] at HV
        clear hcb
        go_enter Try.func25, Try.ntmps25
        go_wp2_with (first | (have _f := f1; refine (mayName_any _ _ HON.out).mono ?_; rw [HMN.out]; rintro e' w' ⟨rfl, rfl⟩; clear _f f1) | (have _f := f3; refine (HCT.out _ (Below.refl _ _)).mono ?_; rintro e' wc ⟨rfl, hb⟩; have HBC := Lib.hid (bel_then HB0.out hb); have HGFc := Lib.hid (HGF.out.bel hb); have HGOc := Lib.hid (HGO.out.bel hb); have t2 := (HGOc.out.cell 2).trans (show _ = some (.int .i64 bm) from rfl); have t3 := (HGOc.out.cell 3).trans (show _ = some (.int .i64 bi) from rfl); have t4 := (HGOc.out.cell 4).trans (show _ = some (.int .u32 va) from rfl); have t5 := (HGOc.out.cell 5).trans (show _ = some (.slice pa pl.length pc) from rfl); clear hb _f f3) | (have _f := f4; refine guard_off (by kernel_rfl) ?_; refine load_sep (cs := #[.string nm, .slice a1 l1.length c1, .slice a2 l2.length c2, .slice a3 l3.length c3]) rfl 26 (.tmp 2) rfl (Sep.one HGFc.out) 0 rfl rfl Try.underlying26 rfl (by kernel_rfl) ?_; clear _f f4) | (have _f := f5; refine guard_off (by kernel_rfl) ?_; refine wpList_load_mid rfl 30 (.tmp 98) rfl (w.heap.size + 1) 2 rfl [.int .i64 bm, .int .i64 bi] _ (fun q y hy => (HGOc.out.cell (2 + q)).trans (by match q, hy with | 0, hy => exact hy | 1, hy => exact hy)) Try.underlying30 rfl (by kernel_rfl) ?_; clear _f f5) | (have _f := f2; refine (HCF.out _ _ _ HRB.out HBC.out).mono ?_; rw [HCB.out]; rintro e' w1 ⟨rfl, hb⟩; have HB1 := Lib.hid (bel_then HBC.out hb); clear hb _f f2))
        go_ret
        rw [HV.out]
        exact ⟨rfl, HB1.out⟩
  by_cases hp : (0 : Int) < pl.length
  · have e4 : (cl == 4) = false := by rw [beq_eq_false_iff_ne]; exact hc4
    have e5 : (cl != 4) = true := by rw [bne, e4]; rfl
    have HV : Hid (mayObjB e ⟨cl, on, ⟨bm, bi⟩, va, pl⟩ = false) := Lib.hid (mo_params hc4 (by dsimp only; omega))
    clear hc4
    go_enter Try.func25, Try.ntmps25
    go_wp2_with (first | (have _f := f1; refine (mayName_any _ _ HON.out).mono ?_; rw [HMN.out]; rintro e' w' ⟨rfl, rfl⟩; clear _f f1))
    go_ret
    rw [HV.out]
    exact ⟨rfl, HB0.out⟩
  have HP0 : Hid (pl.length = 0) := Lib.hid (by omega)
  by_cases hc1 : cl = 1
  · subst hc1
    have HMO := Lib.hid (mo_const (e := e) (o := ⟨1, on, ⟨bm, bi⟩, va, pl⟩) HMN.out rfl HP0.out)
    clear hc4
    by_cases xm : bm = 0
    rotate_left
    · have d : (bm == 0) = false := by rw [beq_eq_false_iff_ne]; exact xm
      have dn : (bm != 0) = true := by rw [bne, d]; rfl
      have HV : Hid (mayObjB e ⟨1, on, ⟨bm, bi⟩, va, pl⟩ = false) := Lib.hid (by rw [HMO.out]; exact const_mod xm)
      clear xm
      go_enter Try.func25, Try.ntmps25
      go_wp2_with (first | (have _f := f1; refine (mayName_any _ _ HON.out).mono ?_; rw [HMN.out]; rintro e' w' ⟨rfl, rfl⟩; clear _f f1))
      go_ret
      rw [HV.out]
      exact ⟨rfl, HB0.out⟩
    have dm : (bm == 0) = true := by rw [xm]; rfl
    have dmn : (bm != 0) = false := by rw [bne, dm]; rfl
    have HXM := Lib.hid xm
    clear xm
    by_cases x2 : bi = 2
    · subst x2
      have HV : Hid (mayObjB e ⟨1, on, ⟨bm, 2⟩, va, pl⟩ = decide (va ≤ 1)) := Lib.hid (by rw [HMO.out]; exact const_2 HXM.out rfl)
      skip
      go_enter Try.func25, Try.ntmps25
      go_wp2_with (first | (have _f := f1; refine (mayName_any _ _ HON.out).mono ?_; rw [HMN.out]; rintro e' w' ⟨rfl, rfl⟩; clear _f f1))
      go_ret
      rw [HV.out]
      exact ⟨rfl, HB0.out⟩
    by_cases x3 : bi = 3
    · subst x3
      have HV : Hid (mayObjB e ⟨1, on, ⟨bm, 3⟩, va, pl⟩ = decide (va ≤ 255)) := Lib.hid (by rw [HMO.out]; exact const_3 HXM.out rfl)
      skip
      go_enter Try.func25, Try.ntmps25
      go_wp2_with (first | (have _f := f1; refine (mayName_any _ _ HON.out).mono ?_; rw [HMN.out]; rintro e' w' ⟨rfl, rfl⟩; clear _f f1))
      go_ret
      rw [HV.out]
      exact ⟨rfl, HB0.out⟩
    by_cases x1 : bi = 1
    · subst x1
      have HV : Hid (mayObjB e ⟨1, on, ⟨bm, 1⟩, va, pl⟩ = true) := Lib.hid (by rw [HMO.out]; exact const_15 HXM.out (.inl rfl))
      skip
      go_enter Try.func25, Try.ntmps25
      go_wp2_with (first | (have _f := f1; refine (mayName_any _ _ HON.out).mono ?_; rw [HMN.out]; rintro e' w' ⟨rfl, rfl⟩; clear _f f1))
      go_ret
      rw [HV.out]
      exact ⟨rfl, HB0.out⟩
    by_cases x5 : bi = 5
    · subst x5
      have HV : Hid (mayObjB e ⟨1, on, ⟨bm, 5⟩, va, pl⟩ = true) := Lib.hid (by rw [HMO.out]; exact const_15 HXM.out (.inr rfl))
      skip
      go_enter Try.func25, Try.ntmps25
      go_wp2_with (first | (have _f := f1; refine (mayName_any _ _ HON.out).mono ?_; rw [HMN.out]; rintro e' w' ⟨rfl, rfl⟩; clear _f f1))
      go_ret
      rw [HV.out]
      exact ⟨rfl, HB0.out⟩
    have e1 : (bi == 1) = false := by rw [beq_eq_false_iff_ne]; exact x1
    have e2 : (bi == 2) = false := by rw [beq_eq_false_iff_ne]; exact x2
    have e3 : (bi == 3) = false := by rw [beq_eq_false_iff_ne]; exact x3
    have e5 : (bi == 5) = false := by rw [beq_eq_false_iff_ne]; exact x5
    have HV : Hid (mayObjB e ⟨1, on, ⟨bm, bi⟩, va, pl⟩ = false) := Lib.hid (by rw [HMO.out]; exact const_no x1 x2 x3 x5)
    clear x1 x2 x3 x5
    go_enter Try.func25, Try.ntmps25
    go_wp2_with (first | (have _f := f1; refine (mayName_any _ _ HON.out).mono ?_; rw [HMN.out]; rintro e' w' ⟨rfl, rfl⟩; clear _f f1))
    go_ret
    rw [HV.out]
    exact ⟨rfl, HB0.out⟩
  by_cases hc3 : cl = 3
  · subst hc3
    have HMO := Lib.hid (mo_var (e := e) (o := ⟨3, on, ⟨bm, bi⟩, va, pl⟩) HMN.out rfl HP0.out)
    dsimp only at HMO
    clear hc4 hc1
    by_cases xv : va ≤ 262144
    · have d : decide (va ≤ 262144) = true := decide_eq_true xv
      have HV : Hid (mayObjB e ⟨3, on, ⟨bm, bi⟩, va, pl⟩ = closedB e ⟨bm, bi⟩) := Lib.hid (by rw [HMO.out, decide_eq_true xv]; rfl)
      clear xv
      obtain ⟨cb, hcb⟩ : ∃ cb, closedB e ⟨bm, bi⟩ = cb := ⟨_, rfl⟩
      have HCB := Lib.hid hcb
      rw [hcb] at HV
      clear hcb
      go_enter Try.func25, Try.ntmps25
      go_wp2_with (first | (have _f := f1; refine (mayName_any _ _ HON.out).mono ?_; rw [HMN.out]; rintro e' w' ⟨rfl, rfl⟩; clear _f f1) | (have _f := f2; refine (HCF.out _ _ _ HRB.out HB0.out).mono ?_; rw [HCB.out]; rintro e' w1 ⟨rfl, hb⟩; have HB1 := Lib.hid (bel_then HB0.out hb); clear hb _f f2))
      go_ret
      rw [HV.out]
      exact ⟨rfl, HB1.out⟩
    · have d : decide (va ≤ 262144) = false := decide_eq_false xv
      have HV : Hid (mayObjB e ⟨3, on, ⟨bm, bi⟩, va, pl⟩ = false) := Lib.hid (by rw [HMO.out, decide_eq_false xv]; rfl)
      clear xv
      go_enter Try.func25, Try.ntmps25
      go_wp2_with (first | (have _f := f1; refine (mayName_any _ _ HON.out).mono ?_; rw [HMN.out]; rintro e' w' ⟨rfl, rfl⟩; clear _f f1))
      go_ret
      rw [HV.out]
      exact ⟨rfl, HB0.out⟩
  by_cases hc2 : cl = 2
  · subst hc2
    have HMO := Lib.hid (mo_type (e := e) (o := ⟨2, on, ⟨bm, bi⟩, va, pl⟩) HMN.out rfl HP0.out)
    dsimp only at HMO
    clear hc4 hc1 hc3
    by_cases xv : va = 0
    · have d : (va == 0) = true := by rw [xv]; rfl
      have HV : Hid (mayObjB e ⟨2, on, ⟨bm, bi⟩, va, pl⟩ = closedB e ⟨bm, bi⟩) := Lib.hid (by rw [HMO.out, decide_eq_true xv]; rfl)
      clear xv
      obtain ⟨cb, hcb⟩ : ∃ cb, closedB e ⟨bm, bi⟩ = cb := ⟨_, rfl⟩
      have HCB := Lib.hid hcb
      rw [hcb] at HV
      clear hcb
      go_enter Try.func25, Try.ntmps25
      go_wp2_with (first | (have _f := f1; refine (mayName_any _ _ HON.out).mono ?_; rw [HMN.out]; rintro e' w' ⟨rfl, rfl⟩; clear _f f1) | (have _f := f2; refine (HCF.out _ _ _ HRB.out HB0.out).mono ?_; rw [HCB.out]; rintro e' w1 ⟨rfl, hb⟩; have HB1 := Lib.hid (bel_then HB0.out hb); clear hb _f f2))
      go_ret
      rw [HV.out]
      exact ⟨rfl, HB1.out⟩
    · have d : (va == 0) = false := by rw [beq_eq_false_iff_ne]; exact xv
      have HV : Hid (mayObjB e ⟨2, on, ⟨bm, bi⟩, va, pl⟩ = false) := Lib.hid (by rw [HMO.out, decide_eq_false xv]; rfl)
      clear xv
      go_enter Try.func25, Try.ntmps25
      go_wp2_with (first | (have _f := f1; refine (mayName_any _ _ HON.out).mono ?_; rw [HMN.out]; rintro e' w' ⟨rfl, rfl⟩; clear _f f1))
      go_ret
      rw [HV.out]
      exact ⟨rfl, HB0.out⟩
  have e1 : (cl == 1) = false := by rw [beq_eq_false_iff_ne]; exact hc1
  have e2 : (cl == 2) = false := by rw [beq_eq_false_iff_ne]; exact hc2
  have e3 : (cl == 3) = false := by rw [beq_eq_false_iff_ne]; exact hc3
  have e4 : (cl == 4) = false := by rw [beq_eq_false_iff_ne]; exact hc4
  have e4n : (cl != 4) = true := by rw [bne, e4]; rfl
  have HV : Hid (mayObjB e ⟨cl, on, ⟨bm, bi⟩, va, pl⟩ = false) := Lib.hid (mo_none hc1 hc2 hc3 hc4)
  clear hc1 hc2 hc3 hc4
  go_enter Try.func25, Try.ntmps25
  go_wp2_with (first | (have _f := f1; refine (mayName_any _ _ HON.out).mono ?_; rw [HMN.out]; rintro e' w' ⟨rfl, rfl⟩; clear _f f1))
  go_ret
  rw [HV.out]
  exact ⟨rfl, HB0.out⟩
end Go.Proofs.Ytfnibpkojhgflaa
