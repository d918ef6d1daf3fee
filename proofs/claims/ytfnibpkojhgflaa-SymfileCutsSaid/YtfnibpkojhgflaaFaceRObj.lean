/- Contract: the reference's MayObject. Printed by bin/gen_symrobj.py. -/
import Derived.Test.YtfnibpkojhgflaaFaceObj
import Derived.Test.YtfnibpkojhgflaaFaceBytes0
import Derived.Test.YtfnibpkojhgflaaLibA
import Derived.Laws.EntriesVeiled
namespace Go.Proofs.Ytfnibpkojhgflaa
set_option linter.unusedVariables false
set_option linter.unusedSimpArgs false
open Go.RowKit

theorem loads_mid {P : Program} {w : World} {b o : Nat} {cs : List Value} {ty : TypeId} {d : TypeDesc} (hc : ∀ (j : Nat) (v : Value), cs[j]? = some v → w.cell? ⟨b, o + j, none⟩ = some v) (hu : P.underlying ty = some d) (hd : d.isRow = true) (hi : (P.info? ty).map (·.size) = some cs.length) :
    (Instr.loadAt ty (.pointer (some ⟨b, o, none⟩))).run P w = .ok (.agg cs.toArray) w := by
  simp only [Instr.loadAt, Instr.sureAddr, Sem.run_bind, Sem.run_pure, Result.andThen_ok, run_loadVar_mid (P := P) w b o ty cs d hc hu hd hi]
theorem all_of {α : Type} {l : List α} {p : α → Bool} {n : Nat} (hn : l.length ≤ n) (h : ∀ j x, j < n → l[j]? = some x → p x = true) : l.all p = true := by
  rw [List.all_eq_true]
  intro x hx
  obtain ⟨j, hj⟩ := List.mem_iff_getElem?.1 hx
  exact h j x (Nat.lt_of_lt_of_le (List.getElem?_eq_some_iff.1 hj).1 hn) hj
theorem all_not {α : Type} {l : List α} {p : α → Bool} {j : Nat} {x : α} (hx : l[j]? = some x) (h : p x = false) : l.all p = false := by
  rw [Bool.eq_false_iff]; intro hh
  rw [List.all_eq_true.1 hh x (List.mem_of_getElem? hx)] at h
  cases h

set_option maxRecDepth 100000 in
set_option maxHeartbeats 16000000 in
theorem rmayObject_walk (f : Fc) (t : FO) (w : World) (h : f.Rd w) (ht : foD.ok w t) (hn2 : f.types.l.length ≤ 100000000000) :
    Calls Try.prog 30 #[f.val, .agg (foD.cells t).toArray] w fun e' w' => e' = .returned (.bool (mayObjB f.d.env t.d)) ∧ Below w.heap.size w w' := by
  have HCL : Hid (∀ (r : Rf) (W : World), r.ok → Below w.heap.size w W → Calls Try.prog 65 #[f.val, r.val] W fun e' w' => e' = .returned (.bool (closedB f.d.env r)) ∧ Below W.heap.size W w') := Lib.hid (fun r W hr k => rclosed_walk f r W (h.bel k) hr hn2)
  have i1 := h.imps.len
  have HRC : Hid (∀ (r : Rf) (W : World), r.ok → Calls Try.prog 66 #[f.val, r.val] W fun e' w' => e' = .returned (.bool (refB f.d.env r)) ∧ Below W.heap.size W w') := Lib.hid (fun r W hr => mayRef_walk f.name f.imps.a f.types.a f.objs.a f.imps.l.length f.types.l.length f.objs.l.length f.imps.c f.types.c f.objs.c r.mod r.idx W f.d.env (env_ni f) (env_len f) i1 hn2 hr)
  obtain ⟨q1, q2, q3, q4, q5⟩ := ht
  obtain ⟨e, he⟩ : ∃ e, e = f.d.env := ⟨_, rfl⟩
  rw [← he] at HCL HRC ⊢
  clear he h hn2 i1
  obtain ⟨nm, ⟨a1, c1, l1⟩, ⟨a2, c2, l2⟩, ⟨a3, c3, l3⟩⟩ := f
  obtain ⟨cl, on, ⟨bm, bi⟩, va, ⟨pa, pc, pl⟩⟩ := t
  show Calls _ _ #[.agg #[.string nm, .slice a1 l1.length c1, .slice a2 l2.length c2, .slice a3 l3.length c3], .agg #[.int .i64 cl, .string on, .int .i64 bm, .int .i64 bi, .int .u32 va, .slice pa pl.length pc]] w fun e' w' => e' = .returned (.bool (mayObjB e ⟨cl, on, ⟨bm, bi⟩, va, pl⟩)) ∧ _
  dsimp only at q1 q2 q3 q4 q5
  have HCF : Hid (∀ (m i : Int) (W : World), Rf.ok ⟨m, i⟩ → Below w.heap.size w W → Calls Try.prog 65 #[.agg #[.string nm, .slice a1 l1.length c1, .slice a2 l2.length c2, .slice a3 l3.length c3], .agg #[.int .i64 m, .int .i64 i]] W fun e' w' => e' = .returned (.bool (closedB e ⟨m, i⟩)) ∧ Below W.heap.size W w') := Lib.hid (fun m i W hr k => HCL.out ⟨m, i⟩ W hr k)
  have HRF : Hid (∀ (m i : Int) (W : World), Rf.ok ⟨m, i⟩ → Calls Try.prog 66 #[.agg #[.string nm, .slice a1 l1.length c1, .slice a2 l2.length c2, .slice a3 l3.length c3], .agg #[.int .i64 m, .int .i64 i]] W fun e' w' => e' = .returned (.bool (refB e ⟨m, i⟩)) ∧ Below W.heap.size W w') := Lib.hid (fun m i W hr => HRC.out ⟨m, i⟩ W hr)
  clear HCL HRC
  have hpl := q5.len
  dsimp only at hpl
  have HRP : Hid (Rows prmD w ⟨pa, pc, pl⟩) := Lib.hid q5
  have HRB : Hid (Rf.ok ⟨bm, bi⟩) := Lib.hid q3
  have HON := Lib.hid q2
  clear q5 q2
  obtain ⟨q1, q1'⟩ := q1
  obtain ⟨⟨q3, q3'⟩, q5, q5'⟩ := q3
  obtain ⟨q4, q4'⟩ := q4
  dsimp only at q3 q3' q5 q5'
  have HB0 : Hid (Below w.heap.size w ((w.alloc (.cells #[.string nm, .slice a1 l1.length c1, .slice a2 l2.length c2, .slice a3 l3.length c3] 26)).alloc (.cells #[.int .i64 cl, .string on, .int .i64 bm, .int .i64 bi, .int .u32 va, .slice pa pl.length pc] 42))) := Lib.hid (bel2 w _ _)
  have HGF : Hid (At ((w.alloc (.cells #[.string nm, .slice a1 l1.length c1, .slice a2 l2.length c2, .slice a3 l3.length c3] 26)).alloc (.cells #[.int .i64 cl, .string on, .int .i64 bm, .int .i64 bi, .int .u32 va, .slice pa pl.length pc] 42)) w.heap.size #[.string nm, .slice a1 l1.length c1, .slice a2 l2.length c2, .slice a3 l3.length c3] 26) := Lib.hid ((At.new w _ 26).old _)
  have HGO : Hid (At ((w.alloc (.cells #[.string nm, .slice a1 l1.length c1, .slice a2 l2.length c2, .slice a3 l3.length c3] 26)).alloc (.cells #[.int .i64 cl, .string on, .int .i64 bm, .int .i64 bi, .int .u32 va, .slice pa pl.length pc] 42)) (w.heap.size + 1) #[.int .i64 cl, .string on, .int .i64 bm, .int .i64 bi, .int .u32 va, .slice pa pl.length pc] 42) := Lib.hid (by have := At.new (w.alloc (.cells #[.string nm, .slice a1 l1.length c1, .slice a2 l2.length c2, .slice a3 l3.length c3] 26)) #[.int .i64 cl, .string on, .int .i64 bm, .int .i64 bi, .int .u32 va, .slice pa pl.length pc] 42; rwa [show (w.alloc (.cells #[.string nm, .slice a1 l1.length c1, .slice a2 l2.length c2, .slice a3 l3.length c3] 26)).heap.size = w.heap.size + 1 by simp] at this)
  have f1 : True := trivial
  have f2 : True := trivial
  have f3 : True := trivial
  have f4 : True := trivial
  have f5 : True := trivial
  cases hm : mayName on with
  | false =>
    have HMN := Lib.hid hm
    have HV : Hid (mayObjB e ⟨cl, on, ⟨bm, bi⟩, va, pl⟩ = false) := Lib.hid (mo_name hm)
    clear hm
    go_enter Try.func30, Try.ntmps30
    go_wp2_with (first | (have _f := f1; refine (refMayName_any _ _ HON.out).mono ?_; rw [HMN.out]; rintro e' w' ⟨rfl, rfl⟩; clear _f f1))
    go_ret
    rw [HV.out]
    exact ⟨rfl, HB0.out⟩
  | true =>
  have HMN := Lib.hid hm
  clear hm
  by_cases hc4 : cl = 4
  · subst hc4
    have HMO := Lib.hid (mo_proc (e := e) (o := ⟨4, on, ⟨bm, bi⟩, va, pl⟩) HMN.out rfl)
    dsimp only at HMO
    go_enter Try.func30, Try.ntmps30
    go_wp2_with (first | (have _f := f1; refine (refMayName_any _ _ HON.out).mono ?_; rw [HMN.out]; rintro e' w' ⟨rfl, rfl⟩; clear _f f1))
    go_loopw [5] (fun i wr => ∃ k : Nat, k ≤ pl.length ∧ i = .int .i64 k ∧ (∀ j x, j < k → pl[j]? = some x → refB e x.base = true) ∧ Below ((w.alloc (.cells #[.string nm, .slice a1 l1.length c1, .slice a2 l2.length c2, .slice a3 l3.length c3] 26)).alloc (.cells #[.int .i64 4, .string on, .int .i64 bm, .int .i64 bi, .int .u32 va, .slice pa pl.length pc] 42)).heap.size ((w.alloc (.cells #[.string nm, .slice a1 l1.length c1, .slice a2 l2.length c2, .slice a3 l3.length c3] 26)).alloc (.cells #[.int .i64 4, .string on, .int .i64 bm, .int .i64 bi, .int .u32 va, .slice pa pl.length pc] 42)) wr) (fun i _ => pl.length - (intOf i).toNat)
    case atStart => exact ⟨0, Nat.zero_le _, rfl, fun j x h => by omega, Below.refl _ _⟩
    case round =>
      obtain ⟨k, hk, rfl, hJ, hB⟩ := hrel
      have HJ := Lib.hid hJ
      have HB := Lib.hid hB
      clear hJ hB
      have HBW : Hid (Below w.heap.size w wr) := Lib.hid (bel_then HB0.out HB.out)
      have HGFc := Lib.hid (HGF.out.bel HB.out)
      have HGOc := Lib.hid (HGO.out.bel HB.out)
      have t2 := (HGOc.out.cell 2).trans (show _ = some (.int .i64 bm) from rfl)
      have t3 := (HGOc.out.cell 3).trans (show _ = some (.int .i64 bi) from rfl)
      have t4 := (HGOc.out.cell 4).trans (show _ = some (.int .u32 va) from rfl)
      have t5 := (HGOc.out.cell 5).trans (show _ = some (.slice pa pl.length pc) from rfl)
      by_cases hlt : k < pl.length
      · obtain ⟨⟨xv, ⟨xm, xi⟩⟩, hx⟩ := get_lt hlt
        clear t2 t3 t4
        obtain ⟨b, o, hat, hcell⟩ := HRP.out.at'
        dsimp only at hat hcell
        obtain ⟨rfl, hb⟩ := hat (by omega)
        clear hat
        have HXR : Hid (Rf.ok ⟨xm, xi⟩) := Lib.hid (HRP.out.ok hx)
        have HX := Lib.hid hx
        have HLT := Lib.hid hlt
        have HBB := Lib.hid hb
        have HCE := Lib.hid hcell
        have kl : (k : Int) < pl.length := by omega
        clear hx hcell hb
        cases hrx : refB e ⟨xm, xi⟩
        · have HRX := Lib.hid hrx
          clear hrx
          go_wp2_with (fail)
          refine wp_region_mix' [([0, 1, 2, 3, 4, 5, 6], 7)] [8] (by kernel_rfl) (by kernel_rfl) (fun _ _ d _ _ h => by cases d <;> exact h) ?_
          intro wd hbd
          have HBd := Lib.hid hbd
          have HGFd := Lib.hid (HGFc.out.bel hbd)
          have HGOd := Lib.hid (HGOc.out.bel hbd)
          have hcd : ∀ (q : Nat) (y : Value), ([.int .i64 xm, .int .i64 xi] : List Value)[q]? = some y → wd.cell? ⟨b, o + k * 3 + 1 + q, none⟩ = some y := fun q y hy => by rw [Nat.add_assoc (o + k * 3)]; exact ((bel_then HBW.out hbd).cell (p := ⟨b, o + k * 3 + (1 + q), none⟩) HBB.out).trans (HCE.out k _ HX.out (1 + q) y (by match q, hy with | 0, hy => exact hy | 1, hy => exact hy))
          have hbl : b < wd.heap.size := Nat.lt_of_lt_of_le HBB.out (bel_then HBW.out hbd).size
          have ls0 : ∀ y : Later (Below wd.heap.size wd), (Instr.loadAt 26 (.pointer (some ⟨w.heap.size, 0, none⟩))).run Try.prog y.w = .ok (.agg #[.string nm, .slice a1 l1.length c1, .slice a2 l2.length c2, .slice a3 l3.length c3]) y.w := fun y => (HGFd.out.laterB y).loads Try.underlying26 rfl (by kernel_rfl)
          have lc5 : ∀ y : Later (Below wd.heap.size wd), y.w.cell? ⟨w.heap.size + 1, 5, none⟩ = some (.slice (some ⟨b, o, none⟩) pl.length pc) := fun y => ((HGOd.out.laterB y).cell 5).trans rfl
          have ls6 : ∀ y : Later (Below wd.heap.size wd), (Instr.loadAt 30 (.pointer (some ⟨b, o + k * 3 + 1, none⟩))).run Try.prog y.w = .ok (.agg #[.int .i64 xm, .int .i64 xi]) y.w := fun y => loads_mid (cs := [.int .i64 xm, .int .i64 xi]) (fun q v hv => (y.ok.cell (p := ⟨b, o + k * 3 + 1 + q, none⟩) hbl).trans (hcd q v hv)) Try.underlying30 rfl (by kernel_rfl)
          clear hbd hcd hbl t5
          refine mix_step ?_
          simp only [pickOps, nth, Act.put, List.setIfInBounds_toArray, List.set_cons_succ, List.set_cons_zero]
          (go_big_quiet_want; refine quiet_row 26 (.tmp 2) rfl rfl ls0 ?_; go_big_quiet_on)
          simp only [pickOps, nth, Act.put, List.setIfInBounds_toArray, List.set_cons_succ, List.set_cons_zero]
          (repeat (go_big_quiet_step (fail)))
          (go_big_quiet_want; refine quiet_row2 30 (.tmp 26) rfl rfl ls6 ?_; go_big_quiet_on)
          simp only [pickOps, nth, Act.put, List.setIfInBounds_toArray, List.set_cons_succ, List.set_cons_zero]
          (repeat (go_big_quiet_step (fail)))
          refine wpQuiet_nil ?_
          clear ls0 lc5 ls6
          go_wp2_with (refine (HRF.out xm xi _ HXR.out).mono ?_; rw [HRX.out]; rintro e' w1 ⟨rfl, hb⟩; have HBs := Lib.hid hb; have HBn := Lib.hid (bel_then HBd.out hb); clear hb)
          refine ⟨HBs.out, mix_end ?_⟩
          simp only [pickOps, nth, Act.put, List.setIfInBounds_toArray, List.set_cons_succ, List.set_cons_zero]
          (repeat (go_big_quiet_step (fail)))
          refine wpQuiet_nil ?_
          go_wp2_with (fail)
          have HV : Hid (mayObjB e ⟨4, on, ⟨bm, bi⟩, va, pl⟩ = false) := Lib.hid (by rw [HMO.out, all_not HX.out HRX.out]; simp)
          go_ret
          rw [HV.out]
          exact ⟨rfl, bel_then HBW.out HBn.out⟩
        · have HRX := Lib.hid hrx
          clear hrx
          go_wp2_with (fail)
          refine wp_region_mix' [([0, 1, 2, 3, 4, 5, 6], 7)] [8] (by kernel_rfl) (by kernel_rfl) (fun _ _ d _ _ h => by cases d <;> exact h) ?_
          intro wd hbd
          have HBd := Lib.hid hbd
          have HGFd := Lib.hid (HGFc.out.bel hbd)
          have HGOd := Lib.hid (HGOc.out.bel hbd)
          have hcd : ∀ (q : Nat) (y : Value), ([.int .i64 xm, .int .i64 xi] : List Value)[q]? = some y → wd.cell? ⟨b, o + k * 3 + 1 + q, none⟩ = some y := fun q y hy => by rw [Nat.add_assoc (o + k * 3)]; exact ((bel_then HBW.out hbd).cell (p := ⟨b, o + k * 3 + (1 + q), none⟩) HBB.out).trans (HCE.out k _ HX.out (1 + q) y (by match q, hy with | 0, hy => exact hy | 1, hy => exact hy))
          have hbl : b < wd.heap.size := Nat.lt_of_lt_of_le HBB.out (bel_then HBW.out hbd).size
          have ls0 : ∀ y : Later (Below wd.heap.size wd), (Instr.loadAt 26 (.pointer (some ⟨w.heap.size, 0, none⟩))).run Try.prog y.w = .ok (.agg #[.string nm, .slice a1 l1.length c1, .slice a2 l2.length c2, .slice a3 l3.length c3]) y.w := fun y => (HGFd.out.laterB y).loads Try.underlying26 rfl (by kernel_rfl)
          have lc5 : ∀ y : Later (Below wd.heap.size wd), y.w.cell? ⟨w.heap.size + 1, 5, none⟩ = some (.slice (some ⟨b, o, none⟩) pl.length pc) := fun y => ((HGOd.out.laterB y).cell 5).trans rfl
          have ls6 : ∀ y : Later (Below wd.heap.size wd), (Instr.loadAt 30 (.pointer (some ⟨b, o + k * 3 + 1, none⟩))).run Try.prog y.w = .ok (.agg #[.int .i64 xm, .int .i64 xi]) y.w := fun y => loads_mid (cs := [.int .i64 xm, .int .i64 xi]) (fun q v hv => (y.ok.cell (p := ⟨b, o + k * 3 + 1 + q, none⟩) hbl).trans (hcd q v hv)) Try.underlying30 rfl (by kernel_rfl)
          clear hbd hcd hbl t5
          refine mix_step ?_
          simp only [pickOps, nth, Act.put, List.setIfInBounds_toArray, List.set_cons_succ, List.set_cons_zero]
          (go_big_quiet_want; refine quiet_row 26 (.tmp 2) rfl rfl ls0 ?_; go_big_quiet_on)
          simp only [pickOps, nth, Act.put, List.setIfInBounds_toArray, List.set_cons_succ, List.set_cons_zero]
          (repeat (go_big_quiet_step (fail)))
          (go_big_quiet_want; refine quiet_row2 30 (.tmp 26) rfl rfl ls6 ?_; go_big_quiet_on)
          simp only [pickOps, nth, Act.put, List.setIfInBounds_toArray, List.set_cons_succ, List.set_cons_zero]
          (repeat (go_big_quiet_step (fail)))
          refine wpQuiet_nil ?_
          clear ls0 lc5 ls6
          go_wp2_with (refine (HRF.out xm xi _ HXR.out).mono ?_; rw [HRX.out]; rintro e' w1 ⟨rfl, hb⟩; have HBs := Lib.hid hb; have HBn := Lib.hid (bel_then HBd.out hb); clear hb)
          refine ⟨HBs.out, mix_end ?_⟩
          simp only [pickOps, nth, Act.put, List.setIfInBounds_toArray, List.set_cons_succ, List.set_cons_zero]
          (repeat (go_big_quiet_step (fail)))
          refine wpQuiet_nil ?_
          go_wp2_with (fail)
          go_roundw
          case rel =>
            refine ⟨k + 1, HLT.out, by go_num, fun j x hj hx => ?_, bel_then HB.out HBn.out⟩
            rcases Nat.lt_or_ge j k with h | h
            · exact HJ.out j x h hx
            · obtain rfl : j = k := by omega
              rw [HX.out] at hx; cases hx; exact HRX.out
          case measure => simp [intOf]; have := HLT.out; omega
      · have HALL : Hid (pl.all (fun p => refB e p.base) = true) := Lib.hid (all_of (n := k) (by omega) HJ.out)
        clear hk
        by_cases x1 : 1 ≤ va
        rotate_left
        · have d : decide (1 ≤ va) = false := decide_eq_false x1
          have HV : Hid (mayObjB e ⟨4, on, ⟨bm, bi⟩, va, pl⟩ = false) := Lib.hid (by rw [HMO.out, decide_eq_false (fun q => x1 (by have := q.1; omega))]; rfl)
          clear x1
          go_wp2_with (fail)
          go_ret
          rw [HV.out]
          exact ⟨rfl, HBW.out⟩
        have d1 : decide (1 ≤ va) = true := decide_eq_true x1
        by_cases x2 : va ≤ 200
        rotate_left
        · have d : decide (va ≤ 200) = false := decide_eq_false x2
          have HV : Hid (mayObjB e ⟨4, on, ⟨bm, bi⟩, va, pl⟩ = false) := Lib.hid (by rw [HMO.out, decide_eq_false (fun q => x2 (by have := q.2.1; omega))]; rfl)
          clear x1 x2
          go_wp2_with (fail)
          go_ret
          rw [HV.out]
          exact ⟨rfl, HBW.out⟩
        have d2 : decide (va ≤ 200) = true := decide_eq_true x2
        by_cases x3 : (pl.length : Int) ≤ 12
        rotate_left
        · have d : decide ((pl.length : Int) ≤ 12) = false := decide_eq_false x3
          have HV : Hid (mayObjB e ⟨4, on, ⟨bm, bi⟩, va, pl⟩ = false) := Lib.hid (by rw [HMO.out, decide_eq_false (fun q => x3 (by have := q.2.2; omega))]; rfl)
          clear x1 x2 x3
          go_wp2_with (fail)
          go_ret
          rw [HV.out]
          exact ⟨rfl, HBW.out⟩
        have d3 : decide ((pl.length : Int) ≤ 12) = true := decide_eq_true x3
        have HH : Hid (decide (1 ≤ va ∧ va ≤ 200 ∧ pl.length ≤ 12) = true) := Lib.hid (decide_eq_true ⟨x1, x2, by omega⟩)
        clear x1 x2 x3
        by_cases xm : bm = 0
        · by_cases xi : bi = 0
          · have d4 : (bm == 0) = true := by rw [xm]; rfl
            have d5 : (bi == 0) = true := by rw [xi]; rfl
            have HV : Hid (mayObjB e ⟨4, on, ⟨bm, bi⟩, va, pl⟩ = true) := Lib.hid (by rw [HMO.out, HH.out, HALL.out]; unfold noRef; rw [decide_eq_true (And.intro xm xi)]; rfl)
            clear xm xi
            go_wp2_with (fail)
            go_ret
            rw [HV.out]
            exact ⟨rfl, HBW.out⟩
          · have d4 : (bm == 0) = true := by rw [xm]; rfl
            have d5 : (bi == 0) = false := by rw [beq_eq_false_iff_ne]; exact xi
            have HV : Hid (mayObjB e ⟨4, on, ⟨bm, bi⟩, va, pl⟩ = closedB e ⟨bm, bi⟩) := Lib.hid (by rw [HMO.out, HH.out, HALL.out]; unfold noRef; rw [decide_eq_false (fun q => xi q.2)]; rfl)
            clear xm xi
            obtain ⟨cb, hcb⟩ : ∃ cb, closedB e ⟨bm, bi⟩ = cb := ⟨_, rfl⟩
            have HCB := Lib.hid hcb
            rw [hcb] at HV
            clear hcb
            go_wp2_with (first | (have _f := f4; refine guard_off (by kernel_rfl) ?_; refine load_sep (cs := #[.string nm, .slice a1 l1.length c1, .slice a2 l2.length c2, .slice a3 l3.length c3]) rfl 26 (.tmp 2) rfl (Sep.one HGFc.out) 0 rfl rfl Try.underlying26 rfl (by kernel_rfl) ?_; clear _f f4) | (have _f := f5; refine guard_off (by kernel_rfl) ?_; refine wpList_load_mid rfl 30 (.tmp 51) rfl (w.heap.size + 1) 2 rfl [.int .i64 bm, .int .i64 bi] _ (fun q y hy => (HGOc.out.cell (2 + q)).trans (by match q, hy with | 0, hy => exact hy | 1, hy => exact hy)) Try.underlying30 rfl (by kernel_rfl) ?_; clear _f f5) | (have _f := f2; refine (HCF.out _ _ _ HRB.out HBW.out).mono ?_; rw [HCB.out]; rintro e' w1 ⟨rfl, hb⟩; have HB1 := Lib.hid (bel_then HBW.out hb); clear hb _f f2))
            go_ret
            rw [HV.out]
            exact ⟨rfl, HB1.out⟩
        · have d4 : (bm == 0) = false := by rw [beq_eq_false_iff_ne]; exact xm
          have HV : Hid (mayObjB e ⟨4, on, ⟨bm, bi⟩, va, pl⟩ = closedB e ⟨bm, bi⟩) := Lib.hid (by rw [HMO.out, HH.out, HALL.out]; unfold noRef; rw [decide_eq_false (fun q => xm q.1)]; rfl)
          clear xm
          obtain ⟨cb, hcb⟩ : ∃ cb, closedB e ⟨bm, bi⟩ = cb := ⟨_, rfl⟩
          have HCB := Lib.hid hcb
          rw [hcb] at HV
          clear hcb
          go_wp2_with (first | (have _f := f4; refine guard_off (by kernel_rfl) ?_; refine load_sep (cs := #[.string nm, .slice a1 l1.length c1, .slice a2 l2.length c2, .slice a3 l3.length c3]) rfl 26 (.tmp 2) rfl (Sep.one HGFc.out) 0 rfl rfl Try.underlying26 rfl (by kernel_rfl) ?_; clear _f f4) | (have _f := f5; refine guard_off (by kernel_rfl) ?_; refine wpList_load_mid rfl 30 (.tmp 51) rfl (w.heap.size + 1) 2 rfl [.int .i64 bm, .int .i64 bi] _ (fun q y hy => (HGOc.out.cell (2 + q)).trans (by match q, hy with | 0, hy => exact hy | 1, hy => exact hy)) Try.underlying30 rfl (by kernel_rfl) ?_; clear _f f5) | (have _f := f2; refine (HCF.out _ _ _ HRB.out HBW.out).mono ?_; rw [HCB.out]; rintro e' w1 ⟨rfl, hb⟩; have HB1 := Lib.hid (bel_then HBW.out hb); clear hb _f f2))
          go_ret
          rw [HV.out]
          exact ⟨rfl, HB1.out⟩
  have e4 : (cl == 4) = false := by rw [beq_eq_false_iff_ne]; exact hc4
  by_cases hp : (0 : Int) < pl.length
  · have hp2 : decide ((0 : Int) < pl.length) = true := decide_eq_true hp
    have hp3 : decide (0 < pl.length) = true := decide_eq_true (by omega)
    have HV : Hid (mayObjB e ⟨cl, on, ⟨bm, bi⟩, va, pl⟩ = false) := Lib.hid (mo_params hc4 (by dsimp only; omega))
    clear hc4 hp
    go_enter Try.func30, Try.ntmps30
    go_wp2_with (first | (have _f := f1; refine (refMayName_any _ _ HON.out).mono ?_; rw [HMN.out]; rintro e' w' ⟨rfl, rfl⟩; clear _f f1))
    go_ret
    rw [HV.out]
    exact ⟨rfl, HB0.out⟩
  have HP0 : Hid (pl.length = 0) := Lib.hid (by omega)
  have hp2 : decide ((0 : Int) < pl.length) = false := decide_eq_false hp
  have hp3 : decide (0 < pl.length) = false := decide_eq_false (by omega)
  clear hp
  by_cases hc1 : cl = 1
  · subst hc1
    have HMO := Lib.hid (mo_const (e := e) (o := ⟨1, on, ⟨bm, bi⟩, va, pl⟩) HMN.out rfl HP0.out)
    clear hc4 e4
    by_cases xm : bm = 0
    rotate_left
    · have d : (bm == 0) = false := by rw [beq_eq_false_iff_ne]; exact xm
      have HV : Hid (mayObjB e ⟨1, on, ⟨bm, bi⟩, va, pl⟩ = false) := Lib.hid (by rw [HMO.out]; exact const_mod xm)
      clear xm
      go_enter Try.func30, Try.ntmps30
      go_wp2_with (first | (have _f := f1; refine (refMayName_any _ _ HON.out).mono ?_; rw [HMN.out]; rintro e' w' ⟨rfl, rfl⟩; clear _f f1))
      go_ret
      rw [HV.out]
      exact ⟨rfl, HB0.out⟩
    have dm : (bm == 0) = true := by rw [xm]; rfl
    have HXM := Lib.hid xm
    clear xm
    by_cases x1 : bi = 1
    · subst x1
      have HV : Hid (mayObjB e ⟨1, on, ⟨bm, 1⟩, va, pl⟩ = true) := Lib.hid (by rw [HMO.out]; exact const_15 HXM.out (.inl rfl))
      go_enter Try.func30, Try.ntmps30
      go_wp2_with (first | (have _f := f1; refine (refMayName_any _ _ HON.out).mono ?_; rw [HMN.out]; rintro e' w' ⟨rfl, rfl⟩; clear _f f1))
      go_ret
      rw [HV.out]
      exact ⟨rfl, HB0.out⟩
    by_cases x5 : bi = 5
    · subst x5
      have HV : Hid (mayObjB e ⟨1, on, ⟨bm, 5⟩, va, pl⟩ = true) := Lib.hid (by rw [HMO.out]; exact const_15 HXM.out (.inr rfl))
      go_enter Try.func30, Try.ntmps30
      go_wp2_with (first | (have _f := f1; refine (refMayName_any _ _ HON.out).mono ?_; rw [HMN.out]; rintro e' w' ⟨rfl, rfl⟩; clear _f f1))
      go_ret
      rw [HV.out]
      exact ⟨rfl, HB0.out⟩
    by_cases x2 : bi = 2
    · subst x2
      have HV : Hid (mayObjB e ⟨1, on, ⟨bm, 2⟩, va, pl⟩ = decide (va ≤ 1)) := Lib.hid (by rw [HMO.out]; exact const_2 HXM.out rfl)
      cases hv : decide (va ≤ 1)
      · rw [hv] at HV
        go_enter Try.func30, Try.ntmps30
        go_wp2_with (first | (have _f := f1; refine (refMayName_any _ _ HON.out).mono ?_; rw [HMN.out]; rintro e' w' ⟨rfl, rfl⟩; clear _f f1))
        go_ret
        rw [HV.out]
        exact ⟨rfl, HB0.out⟩
      · rw [hv] at HV
        go_enter Try.func30, Try.ntmps30
        go_wp2_with (first | (have _f := f1; refine (refMayName_any _ _ HON.out).mono ?_; rw [HMN.out]; rintro e' w' ⟨rfl, rfl⟩; clear _f f1))
        go_ret
        rw [HV.out]
        exact ⟨rfl, HB0.out⟩
    by_cases x3 : bi = 3
    · subst x3
      have HV : Hid (mayObjB e ⟨1, on, ⟨bm, 3⟩, va, pl⟩ = decide (va ≤ 255)) := Lib.hid (by rw [HMO.out]; exact const_3 HXM.out rfl)
      cases hv : decide (va ≤ 255)
      · rw [hv] at HV
        go_enter Try.func30, Try.ntmps30
        go_wp2_with (first | (have _f := f1; refine (refMayName_any _ _ HON.out).mono ?_; rw [HMN.out]; rintro e' w' ⟨rfl, rfl⟩; clear _f f1))
        go_ret
        rw [HV.out]
        exact ⟨rfl, HB0.out⟩
      · rw [hv] at HV
        go_enter Try.func30, Try.ntmps30
        go_wp2_with (first | (have _f := f1; refine (refMayName_any _ _ HON.out).mono ?_; rw [HMN.out]; rintro e' w' ⟨rfl, rfl⟩; clear _f f1))
        go_ret
        rw [HV.out]
        exact ⟨rfl, HB0.out⟩
    have e1 : (bi == 1) = false := by rw [beq_eq_false_iff_ne]; exact x1
    have e2 : (bi == 2) = false := by rw [beq_eq_false_iff_ne]; exact x2
    have e3 : (bi == 3) = false := by rw [beq_eq_false_iff_ne]; exact x3
    have e5 : (bi == 5) = false := by rw [beq_eq_false_iff_ne]; exact x5
    have HV : Hid (mayObjB e ⟨1, on, ⟨bm, bi⟩, va, pl⟩ = false) := Lib.hid (by rw [HMO.out]; exact const_no x1 x2 x3 x5)
    clear x1 x2 x3 x5
    go_enter Try.func30, Try.ntmps30
    go_wp2_with (first | (have _f := f1; refine (refMayName_any _ _ HON.out).mono ?_; rw [HMN.out]; rintro e' w' ⟨rfl, rfl⟩; clear _f f1))
    go_ret
    rw [HV.out]
    exact ⟨rfl, HB0.out⟩
  have e1 : (cl == 1) = false := by rw [beq_eq_false_iff_ne]; exact hc1
  by_cases hc2 : cl = 2
  · subst hc2
    have HMO := Lib.hid (mo_type (e := e) (o := ⟨2, on, ⟨bm, bi⟩, va, pl⟩) HMN.out rfl HP0.out)
    dsimp only at HMO
    clear hc4 hc1 e4 e1
    by_cases xv : va = 0
    · have d : (va == 0) = true := by rw [xv]; rfl
      have HV : Hid (mayObjB e ⟨2, on, ⟨bm, bi⟩, va, pl⟩ = closedB e ⟨bm, bi⟩) := Lib.hid (by rw [HMO.out, decide_eq_true xv]; rfl)
      clear xv
      obtain ⟨cb, hcb⟩ : ∃ cb, closedB e ⟨bm, bi⟩ = cb := ⟨_, rfl⟩
      have HCB := Lib.hid hcb
      rw [hcb] at HV
      clear hcb
      go_enter Try.func30, Try.ntmps30
      go_wp2_with (first | (have _f := f1; refine (refMayName_any _ _ HON.out).mono ?_; rw [HMN.out]; rintro e' w' ⟨rfl, rfl⟩; clear _f f1) | (have _f := f2; refine (HCF.out _ _ _ HRB.out HB0.out).mono ?_; rw [HCB.out]; rintro e' w1 ⟨rfl, hb⟩; have HB1 := Lib.hid (bel_then HB0.out hb); clear hb _f f2))
      go_ret
      rw [HV.out]
      exact ⟨rfl, HB1.out⟩
    · have d : (va == 0) = false := by rw [beq_eq_false_iff_ne]; exact xv
      have HV : Hid (mayObjB e ⟨2, on, ⟨bm, bi⟩, va, pl⟩ = false) := Lib.hid (by rw [HMO.out, decide_eq_false xv]; rfl)
      clear xv
      go_enter Try.func30, Try.ntmps30
      go_wp2_with (first | (have _f := f1; refine (refMayName_any _ _ HON.out).mono ?_; rw [HMN.out]; rintro e' w' ⟨rfl, rfl⟩; clear _f f1))
      go_ret
      rw [HV.out]
      exact ⟨rfl, HB0.out⟩
  have e2 : (cl == 2) = false := by rw [beq_eq_false_iff_ne]; exact hc2
  by_cases hc3 : cl = 3
  · subst hc3
    have HMO := Lib.hid (mo_var (e := e) (o := ⟨3, on, ⟨bm, bi⟩, va, pl⟩) HMN.out rfl HP0.out)
    dsimp only at HMO
    clear hc4 hc1 e4 e1 hc2 e2
    by_cases xv : va ≤ 262144
    · have d : decide (va ≤ 262144) = true := decide_eq_true xv
      have HV : Hid (mayObjB e ⟨3, on, ⟨bm, bi⟩, va, pl⟩ = closedB e ⟨bm, bi⟩) := Lib.hid (by rw [HMO.out, decide_eq_true xv]; rfl)
      clear xv
      obtain ⟨cb, hcb⟩ : ∃ cb, closedB e ⟨bm, bi⟩ = cb := ⟨_, rfl⟩
      have HCB := Lib.hid hcb
      rw [hcb] at HV
      clear hcb
      go_enter Try.func30, Try.ntmps30
      go_wp2_with (first | (have _f := f1; refine (refMayName_any _ _ HON.out).mono ?_; rw [HMN.out]; rintro e' w' ⟨rfl, rfl⟩; clear _f f1) | (have _f := f2; refine (HCF.out _ _ _ HRB.out HB0.out).mono ?_; rw [HCB.out]; rintro e' w1 ⟨rfl, hb⟩; have HB1 := Lib.hid (bel_then HB0.out hb); clear hb _f f2))
      go_ret
      rw [HV.out]
      exact ⟨rfl, HB1.out⟩
    · have d : decide (va ≤ 262144) = false := decide_eq_false xv
      have HV : Hid (mayObjB e ⟨3, on, ⟨bm, bi⟩, va, pl⟩ = false) := Lib.hid (by rw [HMO.out, decide_eq_false xv]; rfl)
      clear xv
      go_enter Try.func30, Try.ntmps30
      go_wp2_with (first | (have _f := f1; refine (refMayName_any _ _ HON.out).mono ?_; rw [HMN.out]; rintro e' w' ⟨rfl, rfl⟩; clear _f f1))
      go_ret
      rw [HV.out]
      exact ⟨rfl, HB0.out⟩
  have e3 : (cl == 3) = false := by rw [beq_eq_false_iff_ne]; exact hc3
  have HV : Hid (mayObjB e ⟨cl, on, ⟨bm, bi⟩, va, pl⟩ = false) := Lib.hid (mo_none hc1 hc2 hc3 hc4)
  clear hc1 hc2 hc3 hc4
  go_enter Try.func30, Try.ntmps30
  go_wp2_with (first | (have _f := f1; refine (refMayName_any _ _ HON.out).mono ?_; rw [HMN.out]; rintro e' w' ⟨rfl, rfl⟩; clear _f f1))
  go_ret
  rw [HV.out]
  exact ⟨rfl, HB0.out⟩
end Go.Proofs.Ytfnibpkojhgflaa
