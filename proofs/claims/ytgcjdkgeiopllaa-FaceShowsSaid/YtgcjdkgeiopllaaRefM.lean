/- Walks: whether two references mean the same, in the program and in the reference. Printed by bin/gen_ref20m.py. -/
import Derived.Test.YtgcjdkgeiopllaaRefTab
import Derived.Test.YtgcjdkgeiopllaaFrEq
namespace Go.Proofs.Ytgcjdkgeiopllaa
set_option linter.unusedVariables false
set_option linter.unusedSimpArgs false
open Go.RowKit

def MeansP (a b : FD) (r s : Rf) : Prop := mayFace a = true ∧ mayFace b = true ∧ leadsB a r = true ∧ leadsB b s = true ∧ onceP a b (Alike a b) r s
theorem leadsB_iff {f : FD} {r : Rf} : leadsB f r = true ↔ (0 ≤ r.mod ∧ r.mod ≤ f.imps.length ∧ (0 < r.mod → 16 ≤ r.idx) ∧ (r.mod = 0 → (1 ≤ r.idx ∧ r.idx ≤ 6 ∨ 16 ≤ r.idx ∧ r.idx - 16 < f.types.length))) := by unfold leadsB; exact decide_eq_true_iff
theorem leads_near {f : FD} (h : mayFace f = true) {r : Rf} (hl : leadsB f r = true) (h0 : ¬ 0 < r.mod) : Leads f r := by
  have h1 := leadsB_iff.1 hl
  have h2 := may_types h
  refine .inr (decide_eq_true ?_)
  unfold refP
  rw [env_len8]
  left
  have := h1.2.2.2 (by omega)
  omega
theorem rf_in {x : Fc} {r : Rf} (hi : i64In r.mod ∧ i64In r.idx) (hl : leadsB x.d r = true) : RfIn r x.imps.l.length x.types.l.length := by
  have h1 := leadsB_iff.1 hl
  rw [types_len] at h1
  have e : x.d.imps = x.imps.l := rfl
  rw [e] at h1
  exact ⟨hi.1, hi.2, h1.1, h1.2.1, fun h2 h3 => by have := h1.2.2.2 h2; omega⟩
theorem rf_of_leads {x : Fc} {r : Rf} (h : mayFace x.d = true) (hl : Leads x.d r) : RfIn r x.imps.l.length x.types.l.length := by
  have h1 := leads_bd h hl
  have e : x.d.imps = x.imps.l := rfl
  have h5 := leads_nn hl
  refine ⟨⟨by omega, by omega⟩, ⟨by omega, by omega⟩, by omega, ?_, fun h2 h3 => ?_⟩
  · rcases Int.lt_or_le 0 r.mod with q | q
    · have := leads_far hl q; rw [e] at this; exact this
    · omega
  · obtain ⟨i, rfl, hi⟩ := leads_own hl (decide_eq_true ⟨h2, h3⟩)
    rw [types_len] at hi
    dsimp only; omega
theorem may_ftin {x : Fc} (h : mayFace x.d = true) : ∀ t ∈ x.types.l, FtIn t x.imps.l.length x.types.l.length := fun t ht => by
  have hd : t.d ∈ x.d.types := List.mem_map_of_mem ht
  have h1 := leads_type h hd
  refine ⟨fun hf => ⟨?_, rf_of_leads h (h1.1 hf)⟩, fun f hf => rf_of_leads h (h1.2 f hf)⟩
  have h2 := h
  unfold mayFace at h2
  simp only [Bool.and_eq_true, List.all_eq_true] at h2
  have h3 := h2.1.2 t.d hd
  unfold mayTypeB at h3
  rw [if_neg (show ¬ t.d.form = 2 from hf)] at h3
  split at h3
  · simp only [Bool.and_eq_true, decide_eq_true_eq] at h3
    exact List.length_eq_zero_iff.1 h3.1.2
  · split at h3
    · simp only [Bool.and_eq_true, decide_eq_true_eq] at h3
      exact List.length_eq_zero_iff.1 h3.1.2.2
    · cases h3
theorem once_eq {a b : FD} {T U : Nat → Nat → Prop} (h : ∀ i k, T i k ↔ U i k) {r s : Rf} : onceP a b T r s ↔ onceP a b U r s := ⟨once_mono (fun i k => (h i k).1), once_mono (fun i k => (h i k).2)⟩
theorem means_symm {a b : FD} {r s : Rf} (h : MeansP a b r s) : MeansP b a s r := ⟨h.2.1, h.1, h.2.2.2.1, h.2.2.1, once_alike_symm h.2.2.2.2⟩

theorem leads_walk (x : Fc) (rm ri : Int) (w : World) (hr : i64In rm ∧ i64In ri) : Calls Try.prog 31 #[x.val, .agg #[.int .i64 rm, .int .i64 ri]] w fun e w' => e = .returned (.bool (leadsB x.d ⟨rm, ri⟩)) ∧ Below w.heap.size w w' := by
  obtain ⟨xn, ⟨xa1, xc1, xl1⟩, ⟨xa2, xc2, xl2⟩, ⟨xa3, xc3, xl3⟩⟩ := x
  obtain ⟨⟨hr1, hr2⟩, hr3, hr4⟩ := hr
  refine SC.enter (vs := [.agg #[.string xn, .slice xa1 xl1.length xc1, .slice xa2 xl2.length xc2, .slice xa3 xl3.length xc3], .agg #[.int .i64 rm, .int .i64 ri]]) (n := 43) (l := [(0, .agg #[.string xn, .slice xa1 xl1.length xc1, .slice xa2 xl2.length xc2, .slice xa3 xl3.length xc3]), (1, .agg #[.int .i64 rm, .int .i64 ri])]) Try.func31 (by kernel_rfl) (by kernel_rfl) (by kernel_rfl) (by kernel_rfl) ?_
  have M0 := Mem.start w
  refine SC.seq (by kernel_rfl) ?_
  refine SC.region [0, 1, 2] (by kernel_rfl) (by kernel_rfl) ?_
  refine SL.boxM (d := 2) (t := 26) (v := .agg #[.string xn, .slice xa1 xl1.length xc1, .slice xa2 xl2.length xc2, .slice xa3 xl3.length xc3]) (cs := #[.string xn, .slice xa1 xl1.length xc1, .slice xa2 xl2.length xc2, .slice xa3 xl3.length xc3]) M0 (by kernel_rfl) rfl ?_
  intro g1 w2 hb3 ⟨bg1, lg1⟩ M4
  refine SL.boxM (d := 3) (t := 34) (v := .agg #[.int .i64 rm, .int .i64 ri]) (cs := #[.int .i64 rm, .int .i64 ri]) M4 (by kernel_rfl) rfl ?_
  intro g5 w6 hb7 ⟨bg5, lg5⟩ M8
  refine SL.run (d := 4) (v := .bool false) (by kernel_rfl) ?_
  refine SL.nil ?_
  refine SC.next ?_
  refine SC.seq (by kernel_rfl) ?_
  refine SC.block (i := 0) (by kernel_rfl) ?_
  refine SC.seq (by kernel_rfl) ?_
  refine SC.region [0, 1, 2, 3, 4, 5, 6, 7, 8, 9, 10, 11] (by kernel_rfl) (by kernel_rfl) ?_
  refine SL.run (d := 6) (v := .pointer (some ⟨g5, 0, none⟩)) (by kernel_rfl) ?_
  refine SL.load (d := 7) (t := 3) (a := .pointer (some ⟨g5, 0, none⟩)) (v := .int .i64 rm) (by kernel_rfl) (M8.ldCell 0 rfl (j := 0) (v := .int .i64 rm) rfl Try.underlying3 rfl) ?_
  rcases Bool.eq_false_or_eq_true (decide (rm < (0 : Int))) with h9 | h9
  · skip
    have ph9 : rm < (0 : Int) := of_decide_eq_true h9
    refine SL.bool (d := 8) (x := (decide (rm < (0 : Int)))) (y := true) h9 (by kernel_rfl) ?_
    refine SL.run (d := 9) (v := .bool true) (by kernel_rfl) ?_
    refine SL.offs [4, 5, 6, 7, 8, 9] (is := [10, 11]) rfl (by kernel_rfl) ?_
    refine SL.pick (d := 16) (v := .bool true) (by kernel_rfl) ?_
    refine SL.run (d := 5) (v := .bool true) (by kernel_rfl) ?_
    refine SL.nil ?_
    refine SC.next ?_
    refine SC.yes (by kernel_rfl) ?_
    refine SC.seq (by kernel_rfl) ?_
    refine SC.region [0] (by kernel_rfl) (by kernel_rfl) ?_
    refine SL.run (d := 4) (v := .bool false) (by kernel_rfl) ?_
    refine SL.nil ?_
    refine SC.next ?_
    refine SC.ret (by kernel_rfl) ?_
    refine SQ.blockRet ?_
    refine SQ.seqExit (by nofun) ?_
    refine SQ.ret1 (t := 4) (v := .bool false) (.inr rfl) (by kernel_rfl) (by kernel_rfl) ?_
    refine ⟨ret_bool (decide_eq_false ?_).symm, M8.bel⟩
    simp only [Fc.d, List.length_map]
    omega
  · skip
    have ph9 : ¬ (rm < (0 : Int)) := of_decide_eq_false h9
    refine SL.bool (d := 8) (x := (decide (rm < (0 : Int)))) (y := false) h9 (by kernel_rfl) ?_
    refine SL.run (d := 9) (v := .bool false) (by kernel_rfl) ?_
    refine SL.run (d := 10) (v := .pointer (some ⟨g5, 0, none⟩)) (by kernel_rfl) ?_
    refine SL.load (d := 11) (t := 3) (a := .pointer (some ⟨g5, 0, none⟩)) (v := .int .i64 rm) (by kernel_rfl) (M8.ldCell 0 rfl (j := 0) (v := .int .i64 rm) rfl Try.underlying3 rfl) ?_
    refine SL.run (d := 12) (v := .pointer (some ⟨g1, 1, none⟩)) (by kernel_rfl) ?_
    refine SL.load (d := 13) (t := 22) (a := .pointer (some ⟨g1, 1, none⟩)) (v := .slice xa1 xl1.length xc1) (by kernel_rfl) (M8.ldCell 1 rfl (j := 1) (v := .slice xa1 xl1.length xc1) rfl Try.underlying22 rfl) ?_
    refine SL.builtin (d := 14) (b := .len) (ts := [22]) (ty := 3) (vs := [.slice xa1 xl1.length xc1]) (v := .int .i64 ((xl1.length : Nat) : Int)) (by kernel_rfl) (fun k => run_len Try.underlying22 rfl k) ?_
    rcases Bool.eq_false_or_eq_true (decide (((xl1.length : Nat) : Int) < rm)) with h10 | h10
    · skip
      have ph10 : ((xl1.length : Nat) : Int) < rm := of_decide_eq_true h10
      refine SL.bool (d := 15) (x := (decide (((xl1.length : Nat) : Int) < rm))) (y := true) h10 (by kernel_rfl) ?_
      refine SL.pick (d := 16) (v := .bool true) (by kernel_rfl) ?_
      refine SL.run (d := 5) (v := .bool true) (by kernel_rfl) ?_
      refine SL.nil ?_
      refine SC.next ?_
      refine SC.yes (by kernel_rfl) ?_
      refine SC.seq (by kernel_rfl) ?_
      refine SC.region [0] (by kernel_rfl) (by kernel_rfl) ?_
      refine SL.run (d := 4) (v := .bool false) (by kernel_rfl) ?_
      refine SL.nil ?_
      refine SC.next ?_
      refine SC.keep (l' := [(3, .pointer (some ⟨g5, 0, none⟩)), (4, .bool false)]) [3, 4] (by kernel_rfl) ?_
      refine SC.ret (by kernel_rfl) ?_
      refine SQ.blockRet ?_
      refine SQ.seqExit (by nofun) ?_
      refine SQ.ret1 (t := 4) (v := .bool false) (.inr rfl) (by kernel_rfl) (by kernel_rfl) ?_
      refine ⟨ret_bool (decide_eq_false ?_).symm, M8.bel⟩
      simp only [Fc.d, List.length_map]
      omega
    · skip
      have ph10 : ¬ (((xl1.length : Nat) : Int) < rm) := of_decide_eq_false h10
      refine SL.bool (d := 15) (x := (decide (((xl1.length : Nat) : Int) < rm))) (y := false) h10 (by kernel_rfl) ?_
      refine SL.pick (d := 16) (v := .bool false) (by kernel_rfl) ?_
      refine SL.run (d := 5) (v := .bool false) (by kernel_rfl) ?_
      refine SL.nil ?_
      refine SC.next ?_
      refine SC.no (by kernel_rfl) ?_
      refine SC.seq (by kernel_rfl) ?_
      refine SC.region [0, 1, 2, 3] (by kernel_rfl) (by kernel_rfl) ?_
      refine SL.run (d := 18) (v := .pointer (some ⟨g5, 0, none⟩)) (by kernel_rfl) ?_
      refine SL.load (d := 19) (t := 3) (a := .pointer (some ⟨g5, 0, none⟩)) (v := .int .i64 rm) (by kernel_rfl) (M8.ldCell 0 rfl (j := 0) (v := .int .i64 rm) rfl Try.underlying3 rfl) ?_
      rcases Bool.eq_false_or_eq_true (decide ((0 : Int) < rm)) with h11 | h11
      · skip
        have ph11 : (0 : Int) < rm := of_decide_eq_true h11
        refine SL.bool (d := 20) (x := (decide ((0 : Int) < rm))) (y := true) h11 (by kernel_rfl) ?_
        refine SL.run (d := 17) (v := .bool true) (by kernel_rfl) ?_
        refine SL.nil ?_
        refine SC.next ?_
        refine SC.keep (l' := [(2, .pointer (some ⟨g1, 0, none⟩)), (3, .pointer (some ⟨g5, 0, none⟩)), (4, .bool false), (17, .bool true)]) [2, 3, 4, 17] (by kernel_rfl) ?_
        refine SC.yes (by kernel_rfl) ?_
        refine SC.seq (by kernel_rfl) ?_
        refine SC.region [0, 1, 2, 3] (by kernel_rfl) (by kernel_rfl) ?_
        refine SL.run (d := 21) (v := .pointer (some ⟨g5, 1, none⟩)) (by kernel_rfl) ?_
        refine SL.load (d := 22) (t := 3) (a := .pointer (some ⟨g5, 1, none⟩)) (v := .int .i64 ri) (by kernel_rfl) (M8.ldCell 0 rfl (j := 1) (v := .int .i64 ri) rfl Try.underlying3 rfl) ?_
        rcases Bool.eq_false_or_eq_true (decide ((16 : Int) ≤ ri)) with h12 | h12
        · skip
          have ph12 : (16 : Int) ≤ ri := of_decide_eq_true h12
          refine SL.bool (d := 23) (x := (decide ((16 : Int) ≤ ri))) (y := true) h12 (by kernel_rfl) ?_
          refine SL.run (d := 4) (v := .bool true) (by kernel_rfl) ?_
          refine SL.nil ?_
          refine SC.next ?_
          refine SC.ret (by kernel_rfl) ?_
          refine SQ.blockRet ?_
          refine SQ.seqExit (by nofun) ?_
          refine SQ.ret1 (t := 4) (v := .bool true) (.inr rfl) (by kernel_rfl) (by kernel_rfl) ?_
          refine ⟨ret_bool (decide_eq_true ?_).symm, M8.bel⟩
          simp only [Fc.d, List.length_map]
          omega
        · skip
          have ph12 : ¬ ((16 : Int) ≤ ri) := of_decide_eq_false h12
          refine SL.bool (d := 23) (x := (decide ((16 : Int) ≤ ri))) (y := false) h12 (by kernel_rfl) ?_
          refine SL.run (d := 4) (v := .bool false) (by kernel_rfl) ?_
          refine SL.nil ?_
          refine SC.next ?_
          refine SC.ret (by kernel_rfl) ?_
          refine SQ.blockRet ?_
          refine SQ.seqExit (by nofun) ?_
          refine SQ.ret1 (t := 4) (v := .bool false) (.inr rfl) (by kernel_rfl) (by kernel_rfl) ?_
          refine ⟨ret_bool (decide_eq_false ?_).symm, M8.bel⟩
          simp only [Fc.d, List.length_map]
          omega
      · skip
        have ph11 : ¬ ((0 : Int) < rm) := of_decide_eq_false h11
        refine SL.bool (d := 20) (x := (decide ((0 : Int) < rm))) (y := false) h11 (by kernel_rfl) ?_
        refine SL.run (d := 17) (v := .bool false) (by kernel_rfl) ?_
        refine SL.nil ?_
        refine SC.next ?_
        refine SC.keep (l' := [(2, .pointer (some ⟨g1, 0, none⟩)), (3, .pointer (some ⟨g5, 0, none⟩)), (4, .bool false), (17, .bool false)]) [2, 3, 4, 17] (by kernel_rfl) ?_
        refine SC.no (by kernel_rfl) ?_
        refine SC.seq (by kernel_rfl) ?_
        refine SC.region [0, 1, 2, 3] (by kernel_rfl) (by kernel_rfl) ?_
        refine SL.run (d := 25) (v := .pointer (some ⟨g5, 1, none⟩)) (by kernel_rfl) ?_
        refine SL.load (d := 26) (t := 3) (a := .pointer (some ⟨g5, 1, none⟩)) (v := .int .i64 ri) (by kernel_rfl) (M8.ldCell 0 rfl (j := 1) (v := .int .i64 ri) rfl Try.underlying3 rfl) ?_
        rcases Bool.eq_false_or_eq_true (decide ((16 : Int) ≤ ri)) with h13 | h13
        · skip
          have ph13 : (16 : Int) ≤ ri := of_decide_eq_true h13
          refine SL.bool (d := 27) (x := (decide ((16 : Int) ≤ ri))) (y := true) h13 (by kernel_rfl) ?_
          refine SL.run (d := 24) (v := .bool true) (by kernel_rfl) ?_
          refine SL.nil ?_
          refine SC.next ?_
          refine SC.yes (by kernel_rfl) ?_
          refine SC.seq (by kernel_rfl) ?_
          refine SC.region [0, 1, 2, 3, 4, 5, 6, 7] (by kernel_rfl) (by kernel_rfl) ?_
          refine SL.run (d := 28) (v := .pointer (some ⟨g5, 1, none⟩)) (by kernel_rfl) ?_
          refine SL.load (d := 29) (t := 3) (a := .pointer (some ⟨g5, 1, none⟩)) (v := .int .i64 ri) (by kernel_rfl) (M8.ldCell 0 rfl (j := 1) (v := .int .i64 ri) rfl Try.underlying3 rfl) ?_
          refine SL.int (d := 30) (q := .i64) (x := IntKind.wrap .i64 (ri - (16 : Int))) (y := ri - (16 : Int)) (wr64 (by omega) (by omega) (by omega)) (by kernel_rfl) ?_
          refine SL.run (d := 31) (v := .pointer (some ⟨g1, 2, none⟩)) (by kernel_rfl) ?_
          refine SL.load (d := 32) (t := 23) (a := .pointer (some ⟨g1, 2, none⟩)) (v := .slice xa2 xl2.length xc2) (by kernel_rfl) (M8.ldCell 1 rfl (j := 2) (v := .slice xa2 xl2.length xc2) rfl Try.underlying23 rfl) ?_
          refine SL.builtin (d := 33) (b := .len) (ts := [23]) (ty := 3) (vs := [.slice xa2 xl2.length xc2]) (v := .int .i64 ((xl2.length : Nat) : Int)) (by kernel_rfl) (fun k => run_len Try.underlying23 rfl k) ?_
          rcases Bool.eq_false_or_eq_true (decide ((ri - (16 : Int)) < ((xl2.length : Nat) : Int))) with h14 | h14
          · skip
            have ph14 : (ri - (16 : Int)) < ((xl2.length : Nat) : Int) := of_decide_eq_true h14
            refine SL.bool (d := 34) (x := (decide ((ri - (16 : Int)) < ((xl2.length : Nat) : Int)))) (y := true) h14 (by kernel_rfl) ?_
            refine SL.run (d := 4) (v := .bool true) (by kernel_rfl) ?_
            refine SL.nil ?_
            refine SC.next ?_
            refine SC.ret (by kernel_rfl) ?_
            refine SQ.blockRet ?_
            refine SQ.seqExit (by nofun) ?_
            refine SQ.ret1 (t := 4) (v := .bool true) (.inr rfl) (by kernel_rfl) (by kernel_rfl) ?_
            refine ⟨ret_bool (decide_eq_true ?_).symm, M8.bel⟩
            simp only [Fc.d, List.length_map]
            omega
          · skip
            have ph14 : ¬ ((ri - (16 : Int)) < ((xl2.length : Nat) : Int)) := of_decide_eq_false h14
            refine SL.bool (d := 34) (x := (decide ((ri - (16 : Int)) < ((xl2.length : Nat) : Int)))) (y := false) h14 (by kernel_rfl) ?_
            refine SL.run (d := 4) (v := .bool false) (by kernel_rfl) ?_
            refine SL.nil ?_
            refine SC.next ?_
            refine SC.ret (by kernel_rfl) ?_
            refine SQ.blockRet ?_
            refine SQ.seqExit (by nofun) ?_
            refine SQ.ret1 (t := 4) (v := .bool false) (.inr rfl) (by kernel_rfl) (by kernel_rfl) ?_
            refine ⟨ret_bool (decide_eq_false ?_).symm, M8.bel⟩
            simp only [Fc.d, List.length_map]
            omega
        · skip
          have ph13 : ¬ ((16 : Int) ≤ ri) := of_decide_eq_false h13
          refine SL.bool (d := 27) (x := (decide ((16 : Int) ≤ ri))) (y := false) h13 (by kernel_rfl) ?_
          refine SL.run (d := 24) (v := .bool false) (by kernel_rfl) ?_
          refine SL.nil ?_
          refine SC.next ?_
          refine SC.no (by kernel_rfl) ?_
          refine SC.skip (by kernel_rfl) ?_
          refine SQ.blockNormal ?_
          refine SC.next ?_
          refine SC.seq (by kernel_rfl) ?_
          refine SC.region [0, 1, 2, 3, 4, 5, 6, 7, 8] (by kernel_rfl) (by kernel_rfl) ?_
          refine SL.run (d := 35) (v := .pointer (some ⟨g5, 1, none⟩)) (by kernel_rfl) ?_
          refine SL.load (d := 36) (t := 3) (a := .pointer (some ⟨g5, 1, none⟩)) (v := .int .i64 ri) (by kernel_rfl) (M8.ldCell 0 rfl (j := 1) (v := .int .i64 ri) rfl Try.underlying3 rfl) ?_
          rcases Bool.eq_false_or_eq_true (decide ((1 : Int) ≤ ri)) with h15 | h15
          · skip
            have ph15 : (1 : Int) ≤ ri := of_decide_eq_true h15
            refine SL.bool (d := 37) (x := (decide ((1 : Int) ≤ ri))) (y := true) h15 (by kernel_rfl) ?_
            refine SL.run (d := 38) (v := .bool true) (by kernel_rfl) ?_
            refine SL.run (d := 39) (v := .pointer (some ⟨g5, 1, none⟩)) (by kernel_rfl) ?_
            refine SL.load (d := 40) (t := 3) (a := .pointer (some ⟨g5, 1, none⟩)) (v := .int .i64 ri) (by kernel_rfl) (M8.ldCell 0 rfl (j := 1) (v := .int .i64 ri) rfl Try.underlying3 rfl) ?_
            rcases Bool.eq_false_or_eq_true (decide (ri ≤ (6 : Int))) with h16 | h16
            · skip
              have ph16 : ri ≤ (6 : Int) := of_decide_eq_true h16
              refine SL.bool (d := 41) (x := (decide (ri ≤ (6 : Int)))) (y := true) h16 (by kernel_rfl) ?_
              refine SL.pick (d := 42) (v := .bool true) (by kernel_rfl) ?_
              refine SL.run (d := 4) (v := .bool true) (by kernel_rfl) ?_
              refine SL.nil ?_
              refine SC.next ?_
              refine SC.keep (l' := [(4, .bool true)]) [4] (by kernel_rfl) ?_
              refine SC.ret (by kernel_rfl) ?_
              refine SQ.ret1 (t := 4) (v := .bool true) (.inr rfl) (by kernel_rfl) (by kernel_rfl) ?_
              refine ⟨ret_bool (decide_eq_true ?_).symm, M8.bel⟩
              simp only [Fc.d, List.length_map]
              omega
            · skip
              have ph16 : ¬ (ri ≤ (6 : Int)) := of_decide_eq_false h16
              refine SL.bool (d := 41) (x := (decide (ri ≤ (6 : Int)))) (y := false) h16 (by kernel_rfl) ?_
              refine SL.pick (d := 42) (v := .bool false) (by kernel_rfl) ?_
              refine SL.run (d := 4) (v := .bool false) (by kernel_rfl) ?_
              refine SL.nil ?_
              refine SC.next ?_
              refine SC.keep (l' := [(4, .bool false)]) [4] (by kernel_rfl) ?_
              refine SC.ret (by kernel_rfl) ?_
              refine SQ.ret1 (t := 4) (v := .bool false) (.inr rfl) (by kernel_rfl) (by kernel_rfl) ?_
              refine ⟨ret_bool (decide_eq_false ?_).symm, M8.bel⟩
              simp only [Fc.d, List.length_map]
              omega
          · skip
            have ph15 : ¬ ((1 : Int) ≤ ri) := of_decide_eq_false h15
            refine SL.bool (d := 37) (x := (decide ((1 : Int) ≤ ri))) (y := false) h15 (by kernel_rfl) ?_
            refine SL.run (d := 38) (v := .bool false) (by kernel_rfl) ?_
            refine SL.offs [4, 5, 6] (is := [7, 8]) rfl (by kernel_rfl) ?_
            refine SL.pick (d := 42) (v := .bool false) (by kernel_rfl) ?_
            refine SL.run (d := 4) (v := .bool false) (by kernel_rfl) ?_
            refine SL.nil ?_
            refine SC.next ?_
            refine SC.ret (by kernel_rfl) ?_
            refine SQ.ret1 (t := 4) (v := .bool false) (.inr rfl) (by kernel_rfl) (by kernel_rfl) ?_
            refine ⟨ret_bool (decide_eq_false ?_).symm, M8.bel⟩
            simp only [Fc.d, List.length_map]
            omega
theorem means_far (x y : Fc) (rm ri sm si : Int) (gp Bm : Nat) (w : World) (hx : x.Rd w) (hy : y.Rd w) (hr : i64In rm ∧ i64In ri) (hs : i64In sm ∧ i64In si) (lr : leadsB x.d ⟨rm, ri⟩ = true) (ls : leadsB y.d ⟨sm, si⟩ = true) (hp : At w gp (pairC x y Bm) 57) (hf : 0 < rm ∨ 0 < sm) :
    Calls Try.prog 32 #[.pointer (some ⟨gp, 0, none⟩), .agg #[.int .i64 rm, .int .i64 ri], .agg #[.int .i64 sm, .int .i64 si]] w fun e w' => ∃ R : Bool, e = .returned (.bool R) ∧ (R = true ↔ onceP x.d y.d (Alike x.d y.d) ⟨rm, ri⟩ ⟨sm, si⟩) ∧ Below w.heap.size w w' := by
  obtain ⟨⟨hr1, hr2⟩, hr3, hr4⟩ := hr
  obtain ⟨⟨hs1, hs2⟩, hs3, hs4⟩ := hs
  have hr5 := leadsB_iff.1 lr
  have hs5 := leadsB_iff.1 ls
  have hcl : ∀ (q : Nat) (v : Value), (pairC x y Bm).toList[q]? = some v → w.cell? ⟨gp, 0 + q, none⟩ = some v := fun q v hv => by rw [Nat.zero_add, hp.cell, ← Array.getElem?_toList]; exact hv
  have hgp := hp.lt
  clear hp
  obtain ⟨D, hD⟩ : ∃ D : Prop, D = onceP x.d y.d (Alike x.d y.d) ⟨rm, ri⟩ ⟨sm, si⟩ := ⟨_, rfl⟩
  rw [← hD]
  obtain ⟨xn, ⟨xa1, xc1, xl1⟩, ⟨xa2, xc2, xl2⟩, ⟨xa3, xc3, xl3⟩⟩ := x
  obtain ⟨yn, ⟨ya1, yc1, yl1⟩, ⟨ya2, yc2, yl2⟩, ⟨ya3, yc3, yl3⟩⟩ := y
  have ui : (⟨xn, ⟨xa1, xc1, xl1⟩, ⟨xa2, xc2, xl2⟩, ⟨xa3, xc3, xl3⟩⟩ : Fc).d.imps = xl1 := rfl
  have vi : (⟨yn, ⟨ya1, yc1, yl1⟩, ⟨ya2, yc2, yl2⟩, ⟨ya3, yc3, yl3⟩⟩ : Fc).d.imps = yl1 := rfl
  rw [ui] at hr5
  rw [vi] at hs5
  dsimp only at hr5 hs5
  have hpc : ∀ (q : Nat) (v : Value), ([.string xn, .slice xa1 xl1.length xc1, .slice xa2 xl2.length xc2, .slice xa3 xl3.length xc3, .string yn, .slice ya1 yl1.length yc1, .slice ya2 yl2.length yc2, .slice ya3 yl3.length yc3, .map (some Bm)] : List Value)[q]? = some v → w.cell? ⟨gp, 0 + q, none⟩ = some v := hcl
  clear hcl
  obtain ⟨or_, hor⟩ : ∃ b, ownB ⟨rm, ri⟩ = b := ⟨_, rfl⟩
  obtain ⟨os_, hos⟩ : ∃ b, ownB ⟨sm, si⟩ = b := ⟨_, rfl⟩
  refine SC.enter (vs := [.pointer (some ⟨gp, 0, none⟩), .agg #[.int .i64 rm, .int .i64 ri], .agg #[.int .i64 sm, .int .i64 si]]) (n := 135) (l := [(0, .pointer (some ⟨gp, 0, none⟩)), (1, .agg #[.int .i64 rm, .int .i64 ri]), (2, .agg #[.int .i64 sm, .int .i64 si])]) Try.func32 (by kernel_rfl) (by kernel_rfl) (by kernel_rfl) (by kernel_rfl) ?_
  have M0 := Mem.start w
  refine SC.seq (by kernel_rfl) ?_
  refine SC.region [0, 1, 2, 3] (by kernel_rfl) (by kernel_rfl) ?_
  refine SL.boxM (d := 3) (t := 54) (v := .pointer (some ⟨gp, 0, none⟩)) (cs := #[.pointer (some ⟨gp, 0, none⟩)]) M0 (by kernel_rfl) rfl ?_
  intro g1 w2 hb3 ⟨bg1, lg1⟩ M4
  refine SL.boxM (d := 4) (t := 34) (v := .agg #[.int .i64 rm, .int .i64 ri]) (cs := #[.int .i64 rm, .int .i64 ri]) M4 (by kernel_rfl) rfl ?_
  intro g5 w6 hb7 ⟨bg5, lg5⟩ M8
  refine SL.boxM (d := 5) (t := 34) (v := .agg #[.int .i64 sm, .int .i64 si]) (cs := #[.int .i64 sm, .int .i64 si]) M8 (by kernel_rfl) rfl ?_
  intro g9 w10 hb11 ⟨bg9, lg9⟩ M12
  refine SL.run (d := 6) (v := .bool false) (by kernel_rfl) ?_
  refine SL.nil ?_
  refine SC.next ?_
  refine SC.seq (by kernel_rfl) ?_
  refine SC.block (i := 0) (by kernel_rfl) ?_
  refine SC.seq (by kernel_rfl) ?_
  refine SC.mix [([0, 2], 1), ([], 3)] [4, 5, 6, 7, 8, 9, 10, 11, 12, 13, 14] (by kernel_rfl) (by kernel_rfl) (by kernel_rfl) (PanOk.seq (PanOk.block (PanOk.seq PanOk.body))) ?_
  intro w13 hb14
  have M15 := M12.call hb14
  refine SM.step ?_
  refine SU.load (d := 10) (t := 34) (b := .pointer (some ⟨g5, 0, none⟩)) (v := .agg #[.int .i64 rm, .int .i64 ri]) (by kernel_rfl) (fun y hy => ((M15.call hy).ldBox 1 rfl Try.underlying34 rfl (by kernel_rfl))) ?_
  refine SU.load (d := 12) (t := 34) (b := .pointer (some ⟨g9, 0, none⟩)) (v := .agg #[.int .i64 sm, .int .i64 si]) (by kernel_rfl) (fun y hy => ((M15.call hy).ldBox 0 rfl Try.underlying34 rfl (by kernel_rfl))) ?_
  refine SU.go ?_
  refine SL.call (d := 11) (f := 34) (vs := [.agg #[.int .i64 rm, .int .i64 ri]]) (by kernel_rfl) (by kernel_rfl) (by have := own_walk rm ri w13; rw [hor] at this; exact this) ?_
  rintro e w16 ⟨rfl, hb17⟩
  refine ⟨_, rfl, ?_⟩
  have M18 := M15.call hb17
  refine SL.nil ?_
  refine SM.back hb17 ?_
  refine SM.step ?_
  refine SU.go ?_
  refine SL.call (d := 13) (f := 34) (vs := [.agg #[.int .i64 sm, .int .i64 si]]) (by kernel_rfl) (by kernel_rfl) (by have := own_walk sm si w16; rw [hos] at this; exact this) ?_
  rintro e w19 ⟨rfl, hb20⟩
  refine ⟨_, rfl, ?_⟩
  have M21 := M18.call hb20
  refine SL.nil ?_
  refine SM.back hb20 ?_
  refine SM.last ?_
  cases or_
  · skip
    cases os_
    · skip
      refine SU.run (d := 14) (v := .bool false) (fun y hy => by kernel_rfl) ?_
      refine SU.run (d := 15) (v := .bool false) (fun y hy => by kernel_rfl) ?_
      refine SU.run (d := 16) (v := .pointer (some ⟨g5, 0, none⟩)) (fun y hy => by kernel_rfl) ?_
      refine SU.load (d := 17) (t := 3) (b := .pointer (some ⟨g5, 0, none⟩)) (v := .int .i64 rm) (by kernel_rfl) (fun y hy => ((M21.call hy).ldCell 1 rfl (j := 0) (v := .int .i64 rm) rfl Try.underlying3 rfl)) ?_
      rcases Bool.eq_false_or_eq_true (decide (rm = (0 : Int))) with h22 | h22
      · skip
        have ph22 : rm = (0 : Int) := of_decide_eq_true h22
        refine SU.bool (d := 18) (x := (rm == (0 : Int))) (z := true) ((int_beq _ _).trans h22) (fun y hy => by kernel_rfl) ?_
        refine SU.run (d := 19) (v := .pointer (some ⟨g9, 0, none⟩)) (fun y hy => by kernel_rfl) ?_
        refine SU.load (d := 20) (t := 3) (b := .pointer (some ⟨g9, 0, none⟩)) (v := .int .i64 sm) (by kernel_rfl) (fun y hy => ((M21.call hy).ldCell 0 rfl (j := 0) (v := .int .i64 sm) rfl Try.underlying3 rfl)) ?_
        rcases Bool.eq_false_or_eq_true (decide (sm = (0 : Int))) with h23 | h23
        · skip
          have ph23 : sm = (0 : Int) := of_decide_eq_true h23
          refine SU.bool (d := 21) (x := (sm == (0 : Int))) (z := true) ((int_beq _ _).trans h23) (fun y hy => by kernel_rfl) ?_
          refine SU.run (d := 22) (v := .bool false) (fun y hy => by kernel_rfl) ?_
          refine SU.pick (d := 23) (v := .bool false) (by kernel_rfl) ?_
          refine SU.run (d := 9) (v := .bool false) (fun y hy => by kernel_rfl) ?_
          refine SU.done ?_
          refine SC.next ?_
          refine SC.keep (l' := [(3, .pointer (some ⟨g1, 0, none⟩)), (4, .pointer (some ⟨g5, 0, none⟩)), (5, .pointer (some ⟨g9, 0, none⟩)), (6, .bool false), (9, .bool false)]) [3, 4, 5, 6, 9] (by kernel_rfl) ?_
          refine SC.no (by kernel_rfl) ?_
          refine SC.seq (by kernel_rfl) ?_
          refine SC.region [0, 1, 2, 3] (by kernel_rfl) (by kernel_rfl) ?_
          refine SL.run (d := 25) (v := .pointer (some ⟨g5, 0, none⟩)) (by kernel_rfl) ?_
          refine SL.load (d := 26) (t := 3) (a := .pointer (some ⟨g5, 0, none⟩)) (v := .int .i64 rm) (by kernel_rfl) (M21.ldCell 1 rfl (j := 0) (v := .int .i64 rm) rfl Try.underlying3 rfl) ?_
          rcases Bool.eq_false_or_eq_true (decide ((0 : Int) < rm)) with h24 | h24
          · skip
            have ph24 : (0 : Int) < rm := of_decide_eq_true h24
            obtain ⟨ub, uo, ⟨un, uk⟩, rfl, hub, hu, _, huc⟩ := Rows.elem (hx.imps : Rows impD w ⟨xa1, xc1, xl1⟩) (i := (rm - 1).toNat) (by omega)
            obtain ⟨vb, vo, ⟨vn, vk⟩, rfl, hvb, hv, _, hvc⟩ := Rows.elem (hy.imps : Rows impD w ⟨ya1, yc1, yl1⟩) (i := (sm - 1).toNat) (by omega)
            refine SL.bool (d := 27) (x := (decide ((0 : Int) < rm))) (y := true) h24 (by kernel_rfl) ?_
            refine SL.run (d := 24) (v := .bool true) (by kernel_rfl) ?_
            refine SL.nil ?_
            refine SC.next ?_
            refine SC.yes (by kernel_rfl) ?_
            refine SC.seq (by kernel_rfl) ?_
            refine SC.mix [] [0, 1, 2, 3, 4, 5, 6, 7, 8, 9, 10, 11, 12, 13, 14, 15, 16, 17, 18, 19, 20, 21, 22, 23, 24, 25, 26, 27, 28] (by kernel_rfl) (by kernel_rfl) (by kernel_rfl) (PanOk.seq (PanOk.block (PanOk.seq PanOk.body))) ?_
            intro w25 hb26
            have M27 := M21.call hb26
            refine SM.last ?_
            refine SU.run (d := 28) (v := .pointer (some ⟨g5, 1, none⟩)) (fun y hy => by kernel_rfl) ?_
            refine SU.load (d := 29) (t := 3) (b := .pointer (some ⟨g5, 1, none⟩)) (v := .int .i64 ri) (by kernel_rfl) (fun y hy => ((M27.call hy).ldCell 1 rfl (j := 1) (v := .int .i64 ri) rfl Try.underlying3 rfl)) ?_
            refine SU.run (d := 30) (v := .pointer (some ⟨g9, 1, none⟩)) (fun y hy => by kernel_rfl) ?_
            refine SU.load (d := 31) (t := 3) (b := .pointer (some ⟨g9, 1, none⟩)) (v := .int .i64 si) (by kernel_rfl) (fun y hy => ((M27.call hy).ldCell 0 rfl (j := 1) (v := .int .i64 si) rfl Try.underlying3 rfl)) ?_
            rcases Bool.eq_false_or_eq_true (decide (ri = si)) with h28 | h28
            · skip
              have ph28 : ri = si := of_decide_eq_true h28
              refine SU.bool (d := 32) (x := (ri == si)) (z := true) ((int_beq _ _).trans h28) (fun y hy => by kernel_rfl) ?_
              refine SU.run (d := 33) (v := .bool true) (fun y hy => by kernel_rfl) ?_
              refine SU.load (d := 34) (t := 54) (b := .pointer (some ⟨g1, 0, none⟩)) (v := .pointer (some ⟨gp, 0, none⟩)) (by kernel_rfl) (fun y hy => ((M27.call hy).ldCell 2 rfl (j := 0) (v := .pointer (some ⟨gp, 0, none⟩)) rfl Try.underlying54 rfl)) ?_
              refine SU.run (d := 35) (v := .pointer (some ⟨gp, 0, none⟩)) (fun y hy => by kernel_rfl) ?_
              refine SU.run (d := 36) (v := .pointer (some ⟨gp, 0, none⟩)) (fun y hy => by kernel_rfl) ?_
              refine SU.run (d := 37) (v := .pointer (some ⟨gp, 1, none⟩)) (fun y hy => by kernel_rfl) ?_
              refine SU.load (d := 38) (t := 22) (b := .pointer (some ⟨gp, 1, none⟩)) (v := .slice (some ⟨ub, uo, none⟩) xl1.length xc1) (by kernel_rfl) (fun y hy => (ld_one ((M27.call hy).old hgp (hpc 1 _ rfl)) Try.underlying22 rfl)) ?_
              refine SU.run (d := 39) (v := .pointer (some ⟨g5, 0, none⟩)) (fun y hy => by kernel_rfl) ?_
              refine SU.load (d := 40) (t := 3) (b := .pointer (some ⟨g5, 0, none⟩)) (v := .int .i64 rm) (by kernel_rfl) (fun y hy => ((M27.call hy).ldCell 1 rfl (j := 0) (v := .int .i64 rm) rfl Try.underlying3 rfl)) ?_
              refine SU.int (d := 41) (q := .i64) (x := IntKind.wrap .i64 (rm - (1 : Int))) (z := rm - (1 : Int)) (wr64 (by omega) (by omega) (by omega)) (fun y hy => by kernel_rfl) ?_
              refine SU.index (d := 42) (t := 22) (e := 75) (b := ub) (o := uo) (len := xl1.length) (cap := xc1) (sz := 2) (k := .i64) (m := rm - (1 : Int)) ((rm - (1 : Int)).toNat) (by kernel_rfl) Try.underlying22 (by kernel_rfl) (by omega) (by omega) ?_
              refine SU.load (d := 43) (t := 75) (b := .pointer (some ⟨ub, uo + ((rm - (1 : Int)).toNat) * 2, none⟩)) (v := .agg #[.string un, .int .u32 uk]) (by kernel_rfl) (fun y hy => (ld_mid (cs := [.string un, .int .u32 uk]) (fun j v hv => (M27.call hy).old hub (huc j v hv)) Try.underlying75 rfl (by kernel_rfl) rfl)) ?_
              refine SU.load (d := 44) (t := 54) (b := .pointer (some ⟨g1, 0, none⟩)) (v := .pointer (some ⟨gp, 0, none⟩)) (by kernel_rfl) (fun y hy => ((M27.call hy).ldCell 2 rfl (j := 0) (v := .pointer (some ⟨gp, 0, none⟩)) rfl Try.underlying54 rfl)) ?_
              refine SU.run (d := 45) (v := .pointer (some ⟨gp, 0, none⟩)) (fun y hy => by kernel_rfl) ?_
              refine SU.run (d := 46) (v := .pointer (some ⟨gp, 4, none⟩)) (fun y hy => by kernel_rfl) ?_
              refine SU.run (d := 47) (v := .pointer (some ⟨gp, 5, none⟩)) (fun y hy => by kernel_rfl) ?_
              refine SU.load (d := 48) (t := 22) (b := .pointer (some ⟨gp, 5, none⟩)) (v := .slice (some ⟨vb, vo, none⟩) yl1.length yc1) (by kernel_rfl) (fun y hy => (ld_one ((M27.call hy).old hgp (hpc 5 _ rfl)) Try.underlying22 rfl)) ?_
              refine SU.run (d := 49) (v := .pointer (some ⟨g9, 0, none⟩)) (fun y hy => by kernel_rfl) ?_
              refine SU.load (d := 50) (t := 3) (b := .pointer (some ⟨g9, 0, none⟩)) (v := .int .i64 sm) (by kernel_rfl) (fun y hy => ((M27.call hy).ldCell 0 rfl (j := 0) (v := .int .i64 sm) rfl Try.underlying3 rfl)) ?_
              refine SU.int (d := 51) (q := .i64) (x := IntKind.wrap .i64 (sm - (1 : Int))) (z := sm - (1 : Int)) (wr64 (by omega) (by omega) (by omega)) (fun y hy => by kernel_rfl) ?_
              refine SU.index (d := 52) (t := 22) (e := 75) (b := vb) (o := vo) (len := yl1.length) (cap := yc1) (sz := 2) (k := .i64) (m := sm - (1 : Int)) ((sm - (1 : Int)).toNat) (by kernel_rfl) Try.underlying22 (by kernel_rfl) (by omega) (by omega) ?_
              refine SU.load (d := 53) (t := 75) (b := .pointer (some ⟨vb, vo + ((sm - (1 : Int)).toNat) * 2, none⟩)) (v := .agg #[.string vn, .int .u32 vk]) (by kernel_rfl) (fun y hy => (ld_mid (cs := [.string vn, .int .u32 vk]) (fun j v hv => (M27.call hy).old hvb (hvc j v hv)) Try.underlying75 rfl (by kernel_rfl) rfl)) ?_
              rcases Bool.eq_false_or_eq_true (decide (un = vn)) with h29 | h29
              · skip
                have ph29 : un = vn := of_decide_eq_true h29
                rcases Bool.eq_false_or_eq_true (decide (uk = vk)) with h30 | h30
                · skip
                  have ph30 : uk = vk := of_decide_eq_true h30
                  refine SU.eqAgg (d := 54) (t := 75) (xs := #[.string un, .int .u32 uk]) (ys := #[.string vn, .int .u32 vk]) (r := ((un.toList == vn.toList) && ((uk == vk) && true))) (z := true) (by rw [(str_beq _ _).trans h29, (int_beq _ _).trans h30]; rfl) (by kernel_rfl) (by kernel_rfl) (by kernel_rfl) (by kernel_rfl) (fun y => (eqf_at (i := 0) (ft := 9) (off := 0) (a := .string un) (b := .string vn) (r := (un.toList == vn.toList)) (by kernel_rfl) (by kernel_rfl) (by kernel_rfl) (run_equalIn_string y 9998 _ _ _ Try.underlying9) (eqf_at (i := 1) (ft := 30) (off := 1) (a := .int .u32 uk) (b := .int .u32 vk) (r := (uk == vk)) (by kernel_rfl) (by kernel_rfl) (by kernel_rfl) (run_equalIn_int y 9998 _ _ _ _ _ Try.underlying30) (eqf_end (i := 2) (by kernel_rfl))))) ?_
                  refine SU.pick (d := 55) (v := .bool true) (by kernel_rfl) ?_
                  refine SU.run (d := 6) (v := .bool true) (fun y hy => by kernel_rfl) ?_
                  refine SU.done ?_
                  refine SC.next ?_
                  refine SC.keep (l' := [(3, .pointer (some ⟨g1, 0, none⟩)), (4, .pointer (some ⟨g5, 0, none⟩)), (5, .pointer (some ⟨g9, 0, none⟩)), (6, .bool true)]) [3, 4, 5, 6] (by kernel_rfl) ?_
                  refine SC.ret (by kernel_rfl) ?_
                  refine SQ.blockRet ?_
                  refine SQ.seqExit (by nofun) ?_
                  refine SQ.ret1 (t := 6) (v := .bool true) (.inr rfl) (by kernel_rfl) (by kernel_rfl) ?_
                  refine ⟨_, rfl, ?_, M27.bel⟩
                  rw [hD]
                  rw [once_far20 (by dsimp only; omega) (by dsimp only; omega), ui, vi, hu, hv, Option.some.injEq, Imp.mk.injEq]
                  exact yes_iff (by refine ⟨‹_›, ‹_›, ‹_›⟩)
                · skip
                  have ph30 : ¬ (uk = vk) := of_decide_eq_false h30
                  refine SU.eqAgg (d := 54) (t := 75) (xs := #[.string un, .int .u32 uk]) (ys := #[.string vn, .int .u32 vk]) (r := ((un.toList == vn.toList) && ((uk == vk) && true))) (z := false) (by rw [(str_beq _ _).trans h29, (int_beq _ _).trans h30]; rfl) (by kernel_rfl) (by kernel_rfl) (by kernel_rfl) (by kernel_rfl) (fun y => (eqf_at (i := 0) (ft := 9) (off := 0) (a := .string un) (b := .string vn) (r := (un.toList == vn.toList)) (by kernel_rfl) (by kernel_rfl) (by kernel_rfl) (run_equalIn_string y 9998 _ _ _ Try.underlying9) (eqf_at (i := 1) (ft := 30) (off := 1) (a := .int .u32 uk) (b := .int .u32 vk) (r := (uk == vk)) (by kernel_rfl) (by kernel_rfl) (by kernel_rfl) (run_equalIn_int y 9998 _ _ _ _ _ Try.underlying30) (eqf_end (i := 2) (by kernel_rfl))))) ?_
                  refine SU.pick (d := 55) (v := .bool false) (by kernel_rfl) ?_
                  refine SU.run (d := 6) (v := .bool false) (fun y hy => by kernel_rfl) ?_
                  refine SU.done ?_
                  refine SC.next ?_
                  refine SC.keep (l' := [(3, .pointer (some ⟨g1, 0, none⟩)), (4, .pointer (some ⟨g5, 0, none⟩)), (5, .pointer (some ⟨g9, 0, none⟩)), (6, .bool false)]) [3, 4, 5, 6] (by kernel_rfl) ?_
                  refine SC.ret (by kernel_rfl) ?_
                  refine SQ.blockRet ?_
                  refine SQ.seqExit (by nofun) ?_
                  refine SQ.ret1 (t := 6) (v := .bool false) (.inr rfl) (by kernel_rfl) (by kernel_rfl) ?_
                  refine ⟨_, rfl, ?_, M27.bel⟩
                  rw [hD]
                  rw [once_far20 (by dsimp only; omega) (by dsimp only; omega), ui, vi, hu, hv, Option.some.injEq, Imp.mk.injEq]
                  exact no_iff (by rintro ⟨q1, q2, q3⟩; exact ‹¬ _› ‹_›)
              · skip
                have ph29 : ¬ (un = vn) := of_decide_eq_false h29
                refine SU.eqAgg (d := 54) (t := 75) (xs := #[.string un, .int .u32 uk]) (ys := #[.string vn, .int .u32 vk]) (r := ((un.toList == vn.toList) && ((uk == vk) && true))) (z := false) (by rw [(str_beq _ _).trans h29]; rfl) (by kernel_rfl) (by kernel_rfl) (by kernel_rfl) (by kernel_rfl) (fun y => (eqf_at (i := 0) (ft := 9) (off := 0) (a := .string un) (b := .string vn) (r := (un.toList == vn.toList)) (by kernel_rfl) (by kernel_rfl) (by kernel_rfl) (run_equalIn_string y 9998 _ _ _ Try.underlying9) (eqf_at (i := 1) (ft := 30) (off := 1) (a := .int .u32 uk) (b := .int .u32 vk) (r := (uk == vk)) (by kernel_rfl) (by kernel_rfl) (by kernel_rfl) (run_equalIn_int y 9998 _ _ _ _ _ Try.underlying30) (eqf_end (i := 2) (by kernel_rfl))))) ?_
                refine SU.pick (d := 55) (v := .bool false) (by kernel_rfl) ?_
                refine SU.run (d := 6) (v := .bool false) (fun y hy => by kernel_rfl) ?_
                refine SU.done ?_
                refine SC.next ?_
                refine SC.keep (l' := [(3, .pointer (some ⟨g1, 0, none⟩)), (4, .pointer (some ⟨g5, 0, none⟩)), (5, .pointer (some ⟨g9, 0, none⟩)), (6, .bool false)]) [3, 4, 5, 6] (by kernel_rfl) ?_
                refine SC.ret (by kernel_rfl) ?_
                refine SQ.blockRet ?_
                refine SQ.seqExit (by nofun) ?_
                refine SQ.ret1 (t := 6) (v := .bool false) (.inr rfl) (by kernel_rfl) (by kernel_rfl) ?_
                refine ⟨_, rfl, ?_, M27.bel⟩
                rw [hD]
                rw [once_far20 (by dsimp only; omega) (by dsimp only; omega), ui, vi, hu, hv, Option.some.injEq, Imp.mk.injEq]
                exact no_iff (by rintro ⟨q1, q2, q3⟩; exact ‹¬ _› ‹_›)
            · skip
              have ph28 : ¬ (ri = si) := of_decide_eq_false h28
              refine SU.bool (d := 32) (x := (ri == si)) (z := false) ((int_beq _ _).trans h28) (fun y hy => by kernel_rfl) ?_
              refine SU.run (d := 33) (v := .bool false) (fun y hy => by kernel_rfl) ?_
              refine SU.offs [6, 7, 8, 9, 10, 11, 12, 13, 14, 15, 16, 17, 18, 19, 20, 21, 22, 23, 24, 25, 26] (qs := [27, 28]) rfl (by kernel_rfl) ?_
              refine SU.pick (d := 55) (v := .bool false) (by kernel_rfl) ?_
              refine SU.run (d := 6) (v := .bool false) (fun y hy => by kernel_rfl) ?_
              refine SU.done ?_
              refine SC.next ?_
              refine SC.ret (by kernel_rfl) ?_
              refine SQ.blockRet ?_
              refine SQ.seqExit (by nofun) ?_
              refine SQ.ret1 (t := 6) (v := .bool false) (.inr rfl) (by kernel_rfl) (by kernel_rfl) ?_
              refine ⟨_, rfl, ?_, M27.bel⟩
              rw [hD]
              rw [once_far20 (by dsimp only; omega) (by dsimp only; omega), ui, vi, hu, hv, Option.some.injEq, Imp.mk.injEq]
              exact no_iff (by rintro ⟨q1, q2, q3⟩; exact ‹¬ _› ‹_›)
          · skip
            have ph24 : ¬ ((0 : Int) < rm) := of_decide_eq_false h24
            omega
        · skip
          have ph23 : ¬ (sm = (0 : Int)) := of_decide_eq_false h23
          refine SU.bool (d := 21) (x := (sm == (0 : Int))) (z := false) ((int_beq _ _).trans h23) (fun y hy => by kernel_rfl) ?_
          refine SU.run (d := 22) (v := .bool true) (fun y hy => by kernel_rfl) ?_
          refine SU.pick (d := 23) (v := .bool true) (by kernel_rfl) ?_
          refine SU.run (d := 9) (v := .bool true) (fun y hy => by kernel_rfl) ?_
          refine SU.done ?_
          refine SC.next ?_
          refine SC.keep (l' := [(3, .pointer (some ⟨g1, 0, none⟩)), (4, .pointer (some ⟨g5, 0, none⟩)), (5, .pointer (some ⟨g9, 0, none⟩)), (6, .bool false), (9, .bool true)]) [3, 4, 5, 6, 9] (by kernel_rfl) ?_
          refine SC.yes (by kernel_rfl) ?_
          refine SC.seq (by kernel_rfl) ?_
          refine SC.region [0] (by kernel_rfl) (by kernel_rfl) ?_
          refine SL.run (d := 6) (v := .bool false) (by kernel_rfl) ?_
          refine SL.nil ?_
          refine SC.next ?_
          refine SC.ret (by kernel_rfl) ?_
          refine SQ.blockRet ?_
          refine SQ.seqExit (by nofun) ?_
          refine SQ.ret1 (t := 6) (v := .bool false) (.inr rfl) (by kernel_rfl) (by kernel_rfl) ?_
          refine ⟨_, rfl, ?_, M21.bel⟩
          rw [hD]
          simp only [ownB, decide_eq_true_eq, decide_eq_false_iff_not] at hor hos
          exact no_iff (once_part (by dsimp only; omega))
      · skip
        have ph22 : ¬ (rm = (0 : Int)) := of_decide_eq_false h22
        refine SU.bool (d := 18) (x := (rm == (0 : Int))) (z := false) ((int_beq _ _).trans h22) (fun y hy => by kernel_rfl) ?_
        refine SU.run (d := 19) (v := .pointer (some ⟨g9, 0, none⟩)) (fun y hy => by kernel_rfl) ?_
        refine SU.load (d := 20) (t := 3) (b := .pointer (some ⟨g9, 0, none⟩)) (v := .int .i64 sm) (by kernel_rfl) (fun y hy => ((M21.call hy).ldCell 0 rfl (j := 0) (v := .int .i64 sm) rfl Try.underlying3 rfl)) ?_
        rcases Bool.eq_false_or_eq_true (decide (sm = (0 : Int))) with h31 | h31
        · skip
          have ph31 : sm = (0 : Int) := of_decide_eq_true h31
          refine SU.bool (d := 21) (x := (sm == (0 : Int))) (z := true) ((int_beq _ _).trans h31) (fun y hy => by kernel_rfl) ?_
          refine SU.run (d := 22) (v := .bool true) (fun y hy => by kernel_rfl) ?_
          refine SU.pick (d := 23) (v := .bool true) (by kernel_rfl) ?_
          refine SU.run (d := 9) (v := .bool true) (fun y hy => by kernel_rfl) ?_
          refine SU.done ?_
          refine SC.next ?_
          refine SC.keep (l' := [(3, .pointer (some ⟨g1, 0, none⟩)), (4, .pointer (some ⟨g5, 0, none⟩)), (5, .pointer (some ⟨g9, 0, none⟩)), (6, .bool false), (9, .bool true)]) [3, 4, 5, 6, 9] (by kernel_rfl) ?_
          refine SC.yes (by kernel_rfl) ?_
          refine SC.seq (by kernel_rfl) ?_
          refine SC.region [0] (by kernel_rfl) (by kernel_rfl) ?_
          refine SL.run (d := 6) (v := .bool false) (by kernel_rfl) ?_
          refine SL.nil ?_
          refine SC.next ?_
          refine SC.ret (by kernel_rfl) ?_
          refine SQ.blockRet ?_
          refine SQ.seqExit (by nofun) ?_
          refine SQ.ret1 (t := 6) (v := .bool false) (.inr rfl) (by kernel_rfl) (by kernel_rfl) ?_
          refine ⟨_, rfl, ?_, M21.bel⟩
          rw [hD]
          simp only [ownB, decide_eq_true_eq, decide_eq_false_iff_not] at hor hos
          exact no_iff (once_part (by dsimp only; omega))
        · skip
          have ph31 : ¬ (sm = (0 : Int)) := of_decide_eq_false h31
          refine SU.bool (d := 21) (x := (sm == (0 : Int))) (z := false) ((int_beq _ _).trans h31) (fun y hy => by kernel_rfl) ?_
          refine SU.run (d := 22) (v := .bool false) (fun y hy => by kernel_rfl) ?_
          refine SU.pick (d := 23) (v := .bool false) (by kernel_rfl) ?_
          refine SU.run (d := 9) (v := .bool false) (fun y hy => by kernel_rfl) ?_
          refine SU.done ?_
          refine SC.next ?_
          refine SC.keep (l' := [(3, .pointer (some ⟨g1, 0, none⟩)), (4, .pointer (some ⟨g5, 0, none⟩)), (5, .pointer (some ⟨g9, 0, none⟩)), (6, .bool false), (9, .bool false)]) [3, 4, 5, 6, 9] (by kernel_rfl) ?_
          refine SC.no (by kernel_rfl) ?_
          refine SC.seq (by kernel_rfl) ?_
          refine SC.region [0, 1, 2, 3] (by kernel_rfl) (by kernel_rfl) ?_
          refine SL.run (d := 25) (v := .pointer (some ⟨g5, 0, none⟩)) (by kernel_rfl) ?_
          refine SL.load (d := 26) (t := 3) (a := .pointer (some ⟨g5, 0, none⟩)) (v := .int .i64 rm) (by kernel_rfl) (M21.ldCell 1 rfl (j := 0) (v := .int .i64 rm) rfl Try.underlying3 rfl) ?_
          rcases Bool.eq_false_or_eq_true (decide ((0 : Int) < rm)) with h32 | h32
          · skip
            have ph32 : (0 : Int) < rm := of_decide_eq_true h32
            obtain ⟨ub, uo, ⟨un, uk⟩, rfl, hub, hu, _, huc⟩ := Rows.elem (hx.imps : Rows impD w ⟨xa1, xc1, xl1⟩) (i := (rm - 1).toNat) (by omega)
            obtain ⟨vb, vo, ⟨vn, vk⟩, rfl, hvb, hv, _, hvc⟩ := Rows.elem (hy.imps : Rows impD w ⟨ya1, yc1, yl1⟩) (i := (sm - 1).toNat) (by omega)
            refine SL.bool (d := 27) (x := (decide ((0 : Int) < rm))) (y := true) h32 (by kernel_rfl) ?_
            refine SL.run (d := 24) (v := .bool true) (by kernel_rfl) ?_
            refine SL.nil ?_
            refine SC.next ?_
            refine SC.yes (by kernel_rfl) ?_
            refine SC.seq (by kernel_rfl) ?_
            refine SC.mix [] [0, 1, 2, 3, 4, 5, 6, 7, 8, 9, 10, 11, 12, 13, 14, 15, 16, 17, 18, 19, 20, 21, 22, 23, 24, 25, 26, 27, 28] (by kernel_rfl) (by kernel_rfl) (by kernel_rfl) (PanOk.seq (PanOk.block (PanOk.seq PanOk.body))) ?_
            intro w33 hb34
            have M35 := M21.call hb34
            refine SM.last ?_
            refine SU.run (d := 28) (v := .pointer (some ⟨g5, 1, none⟩)) (fun y hy => by kernel_rfl) ?_
            refine SU.load (d := 29) (t := 3) (b := .pointer (some ⟨g5, 1, none⟩)) (v := .int .i64 ri) (by kernel_rfl) (fun y hy => ((M35.call hy).ldCell 1 rfl (j := 1) (v := .int .i64 ri) rfl Try.underlying3 rfl)) ?_
            refine SU.run (d := 30) (v := .pointer (some ⟨g9, 1, none⟩)) (fun y hy => by kernel_rfl) ?_
            refine SU.load (d := 31) (t := 3) (b := .pointer (some ⟨g9, 1, none⟩)) (v := .int .i64 si) (by kernel_rfl) (fun y hy => ((M35.call hy).ldCell 0 rfl (j := 1) (v := .int .i64 si) rfl Try.underlying3 rfl)) ?_
            rcases Bool.eq_false_or_eq_true (decide (ri = si)) with h36 | h36
            · skip
              have ph36 : ri = si := of_decide_eq_true h36
              refine SU.bool (d := 32) (x := (ri == si)) (z := true) ((int_beq _ _).trans h36) (fun y hy => by kernel_rfl) ?_
              refine SU.run (d := 33) (v := .bool true) (fun y hy => by kernel_rfl) ?_
              refine SU.load (d := 34) (t := 54) (b := .pointer (some ⟨g1, 0, none⟩)) (v := .pointer (some ⟨gp, 0, none⟩)) (by kernel_rfl) (fun y hy => ((M35.call hy).ldCell 2 rfl (j := 0) (v := .pointer (some ⟨gp, 0, none⟩)) rfl Try.underlying54 rfl)) ?_
              refine SU.run (d := 35) (v := .pointer (some ⟨gp, 0, none⟩)) (fun y hy => by kernel_rfl) ?_
              refine SU.run (d := 36) (v := .pointer (some ⟨gp, 0, none⟩)) (fun y hy => by kernel_rfl) ?_
              refine SU.run (d := 37) (v := .pointer (some ⟨gp, 1, none⟩)) (fun y hy => by kernel_rfl) ?_
              refine SU.load (d := 38) (t := 22) (b := .pointer (some ⟨gp, 1, none⟩)) (v := .slice (some ⟨ub, uo, none⟩) xl1.length xc1) (by kernel_rfl) (fun y hy => (ld_one ((M35.call hy).old hgp (hpc 1 _ rfl)) Try.underlying22 rfl)) ?_
              refine SU.run (d := 39) (v := .pointer (some ⟨g5, 0, none⟩)) (fun y hy => by kernel_rfl) ?_
              refine SU.load (d := 40) (t := 3) (b := .pointer (some ⟨g5, 0, none⟩)) (v := .int .i64 rm) (by kernel_rfl) (fun y hy => ((M35.call hy).ldCell 1 rfl (j := 0) (v := .int .i64 rm) rfl Try.underlying3 rfl)) ?_
              refine SU.int (d := 41) (q := .i64) (x := IntKind.wrap .i64 (rm - (1 : Int))) (z := rm - (1 : Int)) (wr64 (by omega) (by omega) (by omega)) (fun y hy => by kernel_rfl) ?_
              refine SU.index (d := 42) (t := 22) (e := 75) (b := ub) (o := uo) (len := xl1.length) (cap := xc1) (sz := 2) (k := .i64) (m := rm - (1 : Int)) ((rm - (1 : Int)).toNat) (by kernel_rfl) Try.underlying22 (by kernel_rfl) (by omega) (by omega) ?_
              refine SU.load (d := 43) (t := 75) (b := .pointer (some ⟨ub, uo + ((rm - (1 : Int)).toNat) * 2, none⟩)) (v := .agg #[.string un, .int .u32 uk]) (by kernel_rfl) (fun y hy => (ld_mid (cs := [.string un, .int .u32 uk]) (fun j v hv => (M35.call hy).old hub (huc j v hv)) Try.underlying75 rfl (by kernel_rfl) rfl)) ?_
              refine SU.load (d := 44) (t := 54) (b := .pointer (some ⟨g1, 0, none⟩)) (v := .pointer (some ⟨gp, 0, none⟩)) (by kernel_rfl) (fun y hy => ((M35.call hy).ldCell 2 rfl (j := 0) (v := .pointer (some ⟨gp, 0, none⟩)) rfl Try.underlying54 rfl)) ?_
              refine SU.run (d := 45) (v := .pointer (some ⟨gp, 0, none⟩)) (fun y hy => by kernel_rfl) ?_
              refine SU.run (d := 46) (v := .pointer (some ⟨gp, 4, none⟩)) (fun y hy => by kernel_rfl) ?_
              refine SU.run (d := 47) (v := .pointer (some ⟨gp, 5, none⟩)) (fun y hy => by kernel_rfl) ?_
              refine SU.load (d := 48) (t := 22) (b := .pointer (some ⟨gp, 5, none⟩)) (v := .slice (some ⟨vb, vo, none⟩) yl1.length yc1) (by kernel_rfl) (fun y hy => (ld_one ((M35.call hy).old hgp (hpc 5 _ rfl)) Try.underlying22 rfl)) ?_
              refine SU.run (d := 49) (v := .pointer (some ⟨g9, 0, none⟩)) (fun y hy => by kernel_rfl) ?_
              refine SU.load (d := 50) (t := 3) (b := .pointer (some ⟨g9, 0, none⟩)) (v := .int .i64 sm) (by kernel_rfl) (fun y hy => ((M35.call hy).ldCell 0 rfl (j := 0) (v := .int .i64 sm) rfl Try.underlying3 rfl)) ?_
              refine SU.int (d := 51) (q := .i64) (x := IntKind.wrap .i64 (sm - (1 : Int))) (z := sm - (1 : Int)) (wr64 (by omega) (by omega) (by omega)) (fun y hy => by kernel_rfl) ?_
              refine SU.index (d := 52) (t := 22) (e := 75) (b := vb) (o := vo) (len := yl1.length) (cap := yc1) (sz := 2) (k := .i64) (m := sm - (1 : Int)) ((sm - (1 : Int)).toNat) (by kernel_rfl) Try.underlying22 (by kernel_rfl) (by omega) (by omega) ?_
              refine SU.load (d := 53) (t := 75) (b := .pointer (some ⟨vb, vo + ((sm - (1 : Int)).toNat) * 2, none⟩)) (v := .agg #[.string vn, .int .u32 vk]) (by kernel_rfl) (fun y hy => (ld_mid (cs := [.string vn, .int .u32 vk]) (fun j v hv => (M35.call hy).old hvb (hvc j v hv)) Try.underlying75 rfl (by kernel_rfl) rfl)) ?_
              rcases Bool.eq_false_or_eq_true (decide (un = vn)) with h37 | h37
              · skip
                have ph37 : un = vn := of_decide_eq_true h37
                rcases Bool.eq_false_or_eq_true (decide (uk = vk)) with h38 | h38
                · skip
                  have ph38 : uk = vk := of_decide_eq_true h38
                  refine SU.eqAgg (d := 54) (t := 75) (xs := #[.string un, .int .u32 uk]) (ys := #[.string vn, .int .u32 vk]) (r := ((un.toList == vn.toList) && ((uk == vk) && true))) (z := true) (by rw [(str_beq _ _).trans h37, (int_beq _ _).trans h38]; rfl) (by kernel_rfl) (by kernel_rfl) (by kernel_rfl) (by kernel_rfl) (fun y => (eqf_at (i := 0) (ft := 9) (off := 0) (a := .string un) (b := .string vn) (r := (un.toList == vn.toList)) (by kernel_rfl) (by kernel_rfl) (by kernel_rfl) (run_equalIn_string y 9998 _ _ _ Try.underlying9) (eqf_at (i := 1) (ft := 30) (off := 1) (a := .int .u32 uk) (b := .int .u32 vk) (r := (uk == vk)) (by kernel_rfl) (by kernel_rfl) (by kernel_rfl) (run_equalIn_int y 9998 _ _ _ _ _ Try.underlying30) (eqf_end (i := 2) (by kernel_rfl))))) ?_
                  refine SU.pick (d := 55) (v := .bool true) (by kernel_rfl) ?_
                  refine SU.run (d := 6) (v := .bool true) (fun y hy => by kernel_rfl) ?_
                  refine SU.done ?_
                  refine SC.next ?_
                  refine SC.keep (l' := [(3, .pointer (some ⟨g1, 0, none⟩)), (4, .pointer (some ⟨g5, 0, none⟩)), (5, .pointer (some ⟨g9, 0, none⟩)), (6, .bool true)]) [3, 4, 5, 6] (by kernel_rfl) ?_
                  refine SC.ret (by kernel_rfl) ?_
                  refine SQ.blockRet ?_
                  refine SQ.seqExit (by nofun) ?_
                  refine SQ.ret1 (t := 6) (v := .bool true) (.inr rfl) (by kernel_rfl) (by kernel_rfl) ?_
                  refine ⟨_, rfl, ?_, M35.bel⟩
                  rw [hD]
                  rw [once_far20 (by dsimp only; omega) (by dsimp only; omega), ui, vi, hu, hv, Option.some.injEq, Imp.mk.injEq]
                  exact yes_iff (by refine ⟨‹_›, ‹_›, ‹_›⟩)
                · skip
                  have ph38 : ¬ (uk = vk) := of_decide_eq_false h38
                  refine SU.eqAgg (d := 54) (t := 75) (xs := #[.string un, .int .u32 uk]) (ys := #[.string vn, .int .u32 vk]) (r := ((un.toList == vn.toList) && ((uk == vk) && true))) (z := false) (by rw [(str_beq _ _).trans h37, (int_beq _ _).trans h38]; rfl) (by kernel_rfl) (by kernel_rfl) (by kernel_rfl) (by kernel_rfl) (fun y => (eqf_at (i := 0) (ft := 9) (off := 0) (a := .string un) (b := .string vn) (r := (un.toList == vn.toList)) (by kernel_rfl) (by kernel_rfl) (by kernel_rfl) (run_equalIn_string y 9998 _ _ _ Try.underlying9) (eqf_at (i := 1) (ft := 30) (off := 1) (a := .int .u32 uk) (b := .int .u32 vk) (r := (uk == vk)) (by kernel_rfl) (by kernel_rfl) (by kernel_rfl) (run_equalIn_int y 9998 _ _ _ _ _ Try.underlying30) (eqf_end (i := 2) (by kernel_rfl))))) ?_
                  refine SU.pick (d := 55) (v := .bool false) (by kernel_rfl) ?_
                  refine SU.run (d := 6) (v := .bool false) (fun y hy => by kernel_rfl) ?_
                  refine SU.done ?_
                  refine SC.next ?_
                  refine SC.keep (l' := [(3, .pointer (some ⟨g1, 0, none⟩)), (4, .pointer (some ⟨g5, 0, none⟩)), (5, .pointer (some ⟨g9, 0, none⟩)), (6, .bool false)]) [3, 4, 5, 6] (by kernel_rfl) ?_
                  refine SC.ret (by kernel_rfl) ?_
                  refine SQ.blockRet ?_
                  refine SQ.seqExit (by nofun) ?_
                  refine SQ.ret1 (t := 6) (v := .bool false) (.inr rfl) (by kernel_rfl) (by kernel_rfl) ?_
                  refine ⟨_, rfl, ?_, M35.bel⟩
                  rw [hD]
                  rw [once_far20 (by dsimp only; omega) (by dsimp only; omega), ui, vi, hu, hv, Option.some.injEq, Imp.mk.injEq]
                  exact no_iff (by rintro ⟨q1, q2, q3⟩; exact ‹¬ _› ‹_›)
              · skip
                have ph37 : ¬ (un = vn) := of_decide_eq_false h37
                refine SU.eqAgg (d := 54) (t := 75) (xs := #[.string un, .int .u32 uk]) (ys := #[.string vn, .int .u32 vk]) (r := ((un.toList == vn.toList) && ((uk == vk) && true))) (z := false) (by rw [(str_beq _ _).trans h37]; rfl) (by kernel_rfl) (by kernel_rfl) (by kernel_rfl) (by kernel_rfl) (fun y => (eqf_at (i := 0) (ft := 9) (off := 0) (a := .string un) (b := .string vn) (r := (un.toList == vn.toList)) (by kernel_rfl) (by kernel_rfl) (by kernel_rfl) (run_equalIn_string y 9998 _ _ _ Try.underlying9) (eqf_at (i := 1) (ft := 30) (off := 1) (a := .int .u32 uk) (b := .int .u32 vk) (r := (uk == vk)) (by kernel_rfl) (by kernel_rfl) (by kernel_rfl) (run_equalIn_int y 9998 _ _ _ _ _ Try.underlying30) (eqf_end (i := 2) (by kernel_rfl))))) ?_
                refine SU.pick (d := 55) (v := .bool false) (by kernel_rfl) ?_
                refine SU.run (d := 6) (v := .bool false) (fun y hy => by kernel_rfl) ?_
                refine SU.done ?_
                refine SC.next ?_
                refine SC.keep (l' := [(3, .pointer (some ⟨g1, 0, none⟩)), (4, .pointer (some ⟨g5, 0, none⟩)), (5, .pointer (some ⟨g9, 0, none⟩)), (6, .bool false)]) [3, 4, 5, 6] (by kernel_rfl) ?_
                refine SC.ret (by kernel_rfl) ?_
                refine SQ.blockRet ?_
                refine SQ.seqExit (by nofun) ?_
                refine SQ.ret1 (t := 6) (v := .bool false) (.inr rfl) (by kernel_rfl) (by kernel_rfl) ?_
                refine ⟨_, rfl, ?_, M35.bel⟩
                rw [hD]
                rw [once_far20 (by dsimp only; omega) (by dsimp only; omega), ui, vi, hu, hv, Option.some.injEq, Imp.mk.injEq]
                exact no_iff (by rintro ⟨q1, q2, q3⟩; exact ‹¬ _› ‹_›)
            · skip
              have ph36 : ¬ (ri = si) := of_decide_eq_false h36
              refine SU.bool (d := 32) (x := (ri == si)) (z := false) ((int_beq _ _).trans h36) (fun y hy => by kernel_rfl) ?_
              refine SU.run (d := 33) (v := .bool false) (fun y hy => by kernel_rfl) ?_
              refine SU.offs [6, 7, 8, 9, 10, 11, 12, 13, 14, 15, 16, 17, 18, 19, 20, 21, 22, 23, 24, 25, 26] (qs := [27, 28]) rfl (by kernel_rfl) ?_
              refine SU.pick (d := 55) (v := .bool false) (by kernel_rfl) ?_
              refine SU.run (d := 6) (v := .bool false) (fun y hy => by kernel_rfl) ?_
              refine SU.done ?_
              refine SC.next ?_
              refine SC.ret (by kernel_rfl) ?_
              refine SQ.blockRet ?_
              refine SQ.seqExit (by nofun) ?_
              refine SQ.ret1 (t := 6) (v := .bool false) (.inr rfl) (by kernel_rfl) (by kernel_rfl) ?_
              refine ⟨_, rfl, ?_, M35.bel⟩
              rw [hD]
              rw [once_far20 (by dsimp only; omega) (by dsimp only; omega), ui, vi, hu, hv, Option.some.injEq, Imp.mk.injEq]
              exact no_iff (by rintro ⟨q1, q2, q3⟩; exact ‹¬ _› ‹_›)
          · skip
            have ph32 : ¬ ((0 : Int) < rm) := of_decide_eq_false h32
            omega
    · skip
      refine SU.run (d := 14) (v := .bool true) (fun y hy => by kernel_rfl) ?_
      refine SU.run (d := 15) (v := .bool true) (fun y hy => by kernel_rfl) ?_
      refine SU.offs [6, 7, 8, 9, 10, 11, 12] (qs := [13, 14]) rfl (by kernel_rfl) ?_
      refine SU.pick (d := 23) (v := .bool true) (by kernel_rfl) ?_
      refine SU.run (d := 9) (v := .bool true) (fun y hy => by kernel_rfl) ?_
      refine SU.done ?_
      refine SC.next ?_
      refine SC.yes (by kernel_rfl) ?_
      refine SC.seq (by kernel_rfl) ?_
      refine SC.region [0] (by kernel_rfl) (by kernel_rfl) ?_
      refine SL.run (d := 6) (v := .bool false) (by kernel_rfl) ?_
      refine SL.nil ?_
      refine SC.next ?_
      refine SC.ret (by kernel_rfl) ?_
      refine SQ.blockRet ?_
      refine SQ.seqExit (by nofun) ?_
      refine SQ.ret1 (t := 6) (v := .bool false) (.inr rfl) (by kernel_rfl) (by kernel_rfl) ?_
      refine ⟨_, rfl, ?_, M21.bel⟩
      rw [hD]
      simp only [ownB, decide_eq_true_eq, decide_eq_false_iff_not] at hor hos
      exact no_iff (once_part (by dsimp only; omega))
  · skip
    cases os_
    · skip
      refine SU.run (d := 14) (v := .bool true) (fun y hy => by kernel_rfl) ?_
      refine SU.run (d := 15) (v := .bool true) (fun y hy => by kernel_rfl) ?_
      refine SU.offs [6, 7, 8, 9, 10, 11, 12] (qs := [13, 14]) rfl (by kernel_rfl) ?_
      refine SU.pick (d := 23) (v := .bool true) (by kernel_rfl) ?_
      refine SU.run (d := 9) (v := .bool true) (fun y hy => by kernel_rfl) ?_
      refine SU.done ?_
      refine SC.next ?_
      refine SC.yes (by kernel_rfl) ?_
      refine SC.seq (by kernel_rfl) ?_
      refine SC.region [0] (by kernel_rfl) (by kernel_rfl) ?_
      refine SL.run (d := 6) (v := .bool false) (by kernel_rfl) ?_
      refine SL.nil ?_
      refine SC.next ?_
      refine SC.ret (by kernel_rfl) ?_
      refine SQ.blockRet ?_
      refine SQ.seqExit (by nofun) ?_
      refine SQ.ret1 (t := 6) (v := .bool false) (.inr rfl) (by kernel_rfl) (by kernel_rfl) ?_
      refine ⟨_, rfl, ?_, M21.bel⟩
      rw [hD]
      simp only [ownB, decide_eq_true_eq, decide_eq_false_iff_not] at hor hos
      exact no_iff (once_part (by dsimp only; omega))
    · skip
      refine SU.run (d := 14) (v := .bool false) (fun y hy => by kernel_rfl) ?_
      refine SU.run (d := 15) (v := .bool false) (fun y hy => by kernel_rfl) ?_
      refine SU.run (d := 16) (v := .pointer (some ⟨g5, 0, none⟩)) (fun y hy => by kernel_rfl) ?_
      refine SU.load (d := 17) (t := 3) (b := .pointer (some ⟨g5, 0, none⟩)) (v := .int .i64 rm) (by kernel_rfl) (fun y hy => ((M21.call hy).ldCell 1 rfl (j := 0) (v := .int .i64 rm) rfl Try.underlying3 rfl)) ?_
      rcases Bool.eq_false_or_eq_true (decide (rm = (0 : Int))) with h39 | h39
      · skip
        have ph39 : rm = (0 : Int) := of_decide_eq_true h39
        refine SU.bool (d := 18) (x := (rm == (0 : Int))) (z := true) ((int_beq _ _).trans h39) (fun y hy => by kernel_rfl) ?_
        refine SU.run (d := 19) (v := .pointer (some ⟨g9, 0, none⟩)) (fun y hy => by kernel_rfl) ?_
        refine SU.load (d := 20) (t := 3) (b := .pointer (some ⟨g9, 0, none⟩)) (v := .int .i64 sm) (by kernel_rfl) (fun y hy => ((M21.call hy).ldCell 0 rfl (j := 0) (v := .int .i64 sm) rfl Try.underlying3 rfl)) ?_
        rcases Bool.eq_false_or_eq_true (decide (sm = (0 : Int))) with h40 | h40
        · skip
          have ph40 : sm = (0 : Int) := of_decide_eq_true h40
          refine SU.bool (d := 21) (x := (sm == (0 : Int))) (z := true) ((int_beq _ _).trans h40) (fun y hy => by kernel_rfl) ?_
          refine SU.run (d := 22) (v := .bool false) (fun y hy => by kernel_rfl) ?_
          refine SU.pick (d := 23) (v := .bool false) (by kernel_rfl) ?_
          refine SU.run (d := 9) (v := .bool false) (fun y hy => by kernel_rfl) ?_
          refine SU.done ?_
          refine SC.next ?_
          refine SC.keep (l' := [(3, .pointer (some ⟨g1, 0, none⟩)), (4, .pointer (some ⟨g5, 0, none⟩)), (5, .pointer (some ⟨g9, 0, none⟩)), (6, .bool false), (9, .bool false)]) [3, 4, 5, 6, 9] (by kernel_rfl) ?_
          refine SC.no (by kernel_rfl) ?_
          refine SC.seq (by kernel_rfl) ?_
          refine SC.region [0, 1, 2, 3] (by kernel_rfl) (by kernel_rfl) ?_
          refine SL.run (d := 25) (v := .pointer (some ⟨g5, 0, none⟩)) (by kernel_rfl) ?_
          refine SL.load (d := 26) (t := 3) (a := .pointer (some ⟨g5, 0, none⟩)) (v := .int .i64 rm) (by kernel_rfl) (M21.ldCell 1 rfl (j := 0) (v := .int .i64 rm) rfl Try.underlying3 rfl) ?_
          rcases Bool.eq_false_or_eq_true (decide ((0 : Int) < rm)) with h41 | h41
          · skip
            have ph41 : (0 : Int) < rm := of_decide_eq_true h41
            obtain ⟨ub, uo, ⟨un, uk⟩, rfl, hub, hu, _, huc⟩ := Rows.elem (hx.imps : Rows impD w ⟨xa1, xc1, xl1⟩) (i := (rm - 1).toNat) (by omega)
            obtain ⟨vb, vo, ⟨vn, vk⟩, rfl, hvb, hv, _, hvc⟩ := Rows.elem (hy.imps : Rows impD w ⟨ya1, yc1, yl1⟩) (i := (sm - 1).toNat) (by omega)
            refine SL.bool (d := 27) (x := (decide ((0 : Int) < rm))) (y := true) h41 (by kernel_rfl) ?_
            refine SL.run (d := 24) (v := .bool true) (by kernel_rfl) ?_
            refine SL.nil ?_
            refine SC.next ?_
            refine SC.yes (by kernel_rfl) ?_
            refine SC.seq (by kernel_rfl) ?_
            refine SC.mix [] [0, 1, 2, 3, 4, 5, 6, 7, 8, 9, 10, 11, 12, 13, 14, 15, 16, 17, 18, 19, 20, 21, 22, 23, 24, 25, 26, 27, 28] (by kernel_rfl) (by kernel_rfl) (by kernel_rfl) (PanOk.seq (PanOk.block (PanOk.seq PanOk.body))) ?_
            intro w42 hb43
            have M44 := M21.call hb43
            refine SM.last ?_
            refine SU.run (d := 28) (v := .pointer (some ⟨g5, 1, none⟩)) (fun y hy => by kernel_rfl) ?_
            refine SU.load (d := 29) (t := 3) (b := .pointer (some ⟨g5, 1, none⟩)) (v := .int .i64 ri) (by kernel_rfl) (fun y hy => ((M44.call hy).ldCell 1 rfl (j := 1) (v := .int .i64 ri) rfl Try.underlying3 rfl)) ?_
            refine SU.run (d := 30) (v := .pointer (some ⟨g9, 1, none⟩)) (fun y hy => by kernel_rfl) ?_
            refine SU.load (d := 31) (t := 3) (b := .pointer (some ⟨g9, 1, none⟩)) (v := .int .i64 si) (by kernel_rfl) (fun y hy => ((M44.call hy).ldCell 0 rfl (j := 1) (v := .int .i64 si) rfl Try.underlying3 rfl)) ?_
            rcases Bool.eq_false_or_eq_true (decide (ri = si)) with h45 | h45
            · skip
              have ph45 : ri = si := of_decide_eq_true h45
              refine SU.bool (d := 32) (x := (ri == si)) (z := true) ((int_beq _ _).trans h45) (fun y hy => by kernel_rfl) ?_
              refine SU.run (d := 33) (v := .bool true) (fun y hy => by kernel_rfl) ?_
              refine SU.load (d := 34) (t := 54) (b := .pointer (some ⟨g1, 0, none⟩)) (v := .pointer (some ⟨gp, 0, none⟩)) (by kernel_rfl) (fun y hy => ((M44.call hy).ldCell 2 rfl (j := 0) (v := .pointer (some ⟨gp, 0, none⟩)) rfl Try.underlying54 rfl)) ?_
              refine SU.run (d := 35) (v := .pointer (some ⟨gp, 0, none⟩)) (fun y hy => by kernel_rfl) ?_
              refine SU.run (d := 36) (v := .pointer (some ⟨gp, 0, none⟩)) (fun y hy => by kernel_rfl) ?_
              refine SU.run (d := 37) (v := .pointer (some ⟨gp, 1, none⟩)) (fun y hy => by kernel_rfl) ?_
              refine SU.load (d := 38) (t := 22) (b := .pointer (some ⟨gp, 1, none⟩)) (v := .slice (some ⟨ub, uo, none⟩) xl1.length xc1) (by kernel_rfl) (fun y hy => (ld_one ((M44.call hy).old hgp (hpc 1 _ rfl)) Try.underlying22 rfl)) ?_
              refine SU.run (d := 39) (v := .pointer (some ⟨g5, 0, none⟩)) (fun y hy => by kernel_rfl) ?_
              refine SU.load (d := 40) (t := 3) (b := .pointer (some ⟨g5, 0, none⟩)) (v := .int .i64 rm) (by kernel_rfl) (fun y hy => ((M44.call hy).ldCell 1 rfl (j := 0) (v := .int .i64 rm) rfl Try.underlying3 rfl)) ?_
              refine SU.int (d := 41) (q := .i64) (x := IntKind.wrap .i64 (rm - (1 : Int))) (z := rm - (1 : Int)) (wr64 (by omega) (by omega) (by omega)) (fun y hy => by kernel_rfl) ?_
              refine SU.index (d := 42) (t := 22) (e := 75) (b := ub) (o := uo) (len := xl1.length) (cap := xc1) (sz := 2) (k := .i64) (m := rm - (1 : Int)) ((rm - (1 : Int)).toNat) (by kernel_rfl) Try.underlying22 (by kernel_rfl) (by omega) (by omega) ?_
              refine SU.load (d := 43) (t := 75) (b := .pointer (some ⟨ub, uo + ((rm - (1 : Int)).toNat) * 2, none⟩)) (v := .agg #[.string un, .int .u32 uk]) (by kernel_rfl) (fun y hy => (ld_mid (cs := [.string un, .int .u32 uk]) (fun j v hv => (M44.call hy).old hub (huc j v hv)) Try.underlying75 rfl (by kernel_rfl) rfl)) ?_
              refine SU.load (d := 44) (t := 54) (b := .pointer (some ⟨g1, 0, none⟩)) (v := .pointer (some ⟨gp, 0, none⟩)) (by kernel_rfl) (fun y hy => ((M44.call hy).ldCell 2 rfl (j := 0) (v := .pointer (some ⟨gp, 0, none⟩)) rfl Try.underlying54 rfl)) ?_
              refine SU.run (d := 45) (v := .pointer (some ⟨gp, 0, none⟩)) (fun y hy => by kernel_rfl) ?_
              refine SU.run (d := 46) (v := .pointer (some ⟨gp, 4, none⟩)) (fun y hy => by kernel_rfl) ?_
              refine SU.run (d := 47) (v := .pointer (some ⟨gp, 5, none⟩)) (fun y hy => by kernel_rfl) ?_
              refine SU.load (d := 48) (t := 22) (b := .pointer (some ⟨gp, 5, none⟩)) (v := .slice (some ⟨vb, vo, none⟩) yl1.length yc1) (by kernel_rfl) (fun y hy => (ld_one ((M44.call hy).old hgp (hpc 5 _ rfl)) Try.underlying22 rfl)) ?_
              refine SU.run (d := 49) (v := .pointer (some ⟨g9, 0, none⟩)) (fun y hy => by kernel_rfl) ?_
              refine SU.load (d := 50) (t := 3) (b := .pointer (some ⟨g9, 0, none⟩)) (v := .int .i64 sm) (by kernel_rfl) (fun y hy => ((M44.call hy).ldCell 0 rfl (j := 0) (v := .int .i64 sm) rfl Try.underlying3 rfl)) ?_
              refine SU.int (d := 51) (q := .i64) (x := IntKind.wrap .i64 (sm - (1 : Int))) (z := sm - (1 : Int)) (wr64 (by omega) (by omega) (by omega)) (fun y hy => by kernel_rfl) ?_
              refine SU.index (d := 52) (t := 22) (e := 75) (b := vb) (o := vo) (len := yl1.length) (cap := yc1) (sz := 2) (k := .i64) (m := sm - (1 : Int)) ((sm - (1 : Int)).toNat) (by kernel_rfl) Try.underlying22 (by kernel_rfl) (by omega) (by omega) ?_
              refine SU.load (d := 53) (t := 75) (b := .pointer (some ⟨vb, vo + ((sm - (1 : Int)).toNat) * 2, none⟩)) (v := .agg #[.string vn, .int .u32 vk]) (by kernel_rfl) (fun y hy => (ld_mid (cs := [.string vn, .int .u32 vk]) (fun j v hv => (M44.call hy).old hvb (hvc j v hv)) Try.underlying75 rfl (by kernel_rfl) rfl)) ?_
              rcases Bool.eq_false_or_eq_true (decide (un = vn)) with h46 | h46
              · skip
                have ph46 : un = vn := of_decide_eq_true h46
                rcases Bool.eq_false_or_eq_true (decide (uk = vk)) with h47 | h47
                · skip
                  have ph47 : uk = vk := of_decide_eq_true h47
                  refine SU.eqAgg (d := 54) (t := 75) (xs := #[.string un, .int .u32 uk]) (ys := #[.string vn, .int .u32 vk]) (r := ((un.toList == vn.toList) && ((uk == vk) && true))) (z := true) (by rw [(str_beq _ _).trans h46, (int_beq _ _).trans h47]; rfl) (by kernel_rfl) (by kernel_rfl) (by kernel_rfl) (by kernel_rfl) (fun y => (eqf_at (i := 0) (ft := 9) (off := 0) (a := .string un) (b := .string vn) (r := (un.toList == vn.toList)) (by kernel_rfl) (by kernel_rfl) (by kernel_rfl) (run_equalIn_string y 9998 _ _ _ Try.underlying9) (eqf_at (i := 1) (ft := 30) (off := 1) (a := .int .u32 uk) (b := .int .u32 vk) (r := (uk == vk)) (by kernel_rfl) (by kernel_rfl) (by kernel_rfl) (run_equalIn_int y 9998 _ _ _ _ _ Try.underlying30) (eqf_end (i := 2) (by kernel_rfl))))) ?_
                  refine SU.pick (d := 55) (v := .bool true) (by kernel_rfl) ?_
                  refine SU.run (d := 6) (v := .bool true) (fun y hy => by kernel_rfl) ?_
                  refine SU.done ?_
                  refine SC.next ?_
                  refine SC.keep (l' := [(3, .pointer (some ⟨g1, 0, none⟩)), (4, .pointer (some ⟨g5, 0, none⟩)), (5, .pointer (some ⟨g9, 0, none⟩)), (6, .bool true)]) [3, 4, 5, 6] (by kernel_rfl) ?_
                  refine SC.ret (by kernel_rfl) ?_
                  refine SQ.blockRet ?_
                  refine SQ.seqExit (by nofun) ?_
                  refine SQ.ret1 (t := 6) (v := .bool true) (.inr rfl) (by kernel_rfl) (by kernel_rfl) ?_
                  refine ⟨_, rfl, ?_, M44.bel⟩
                  rw [hD]
                  rw [once_far20 (by dsimp only; omega) (by dsimp only; omega), ui, vi, hu, hv, Option.some.injEq, Imp.mk.injEq]
                  exact yes_iff (by refine ⟨‹_›, ‹_›, ‹_›⟩)
                · skip
                  have ph47 : ¬ (uk = vk) := of_decide_eq_false h47
                  refine SU.eqAgg (d := 54) (t := 75) (xs := #[.string un, .int .u32 uk]) (ys := #[.string vn, .int .u32 vk]) (r := ((un.toList == vn.toList) && ((uk == vk) && true))) (z := false) (by rw [(str_beq _ _).trans h46, (int_beq _ _).trans h47]; rfl) (by kernel_rfl) (by kernel_rfl) (by kernel_rfl) (by kernel_rfl) (fun y => (eqf_at (i := 0) (ft := 9) (off := 0) (a := .string un) (b := .string vn) (r := (un.toList == vn.toList)) (by kernel_rfl) (by kernel_rfl) (by kernel_rfl) (run_equalIn_string y 9998 _ _ _ Try.underlying9) (eqf_at (i := 1) (ft := 30) (off := 1) (a := .int .u32 uk) (b := .int .u32 vk) (r := (uk == vk)) (by kernel_rfl) (by kernel_rfl) (by kernel_rfl) (run_equalIn_int y 9998 _ _ _ _ _ Try.underlying30) (eqf_end (i := 2) (by kernel_rfl))))) ?_
                  refine SU.pick (d := 55) (v := .bool false) (by kernel_rfl) ?_
                  refine SU.run (d := 6) (v := .bool false) (fun y hy => by kernel_rfl) ?_
                  refine SU.done ?_
                  refine SC.next ?_
                  refine SC.keep (l' := [(3, .pointer (some ⟨g1, 0, none⟩)), (4, .pointer (some ⟨g5, 0, none⟩)), (5, .pointer (some ⟨g9, 0, none⟩)), (6, .bool false)]) [3, 4, 5, 6] (by kernel_rfl) ?_
                  refine SC.ret (by kernel_rfl) ?_
                  refine SQ.blockRet ?_
                  refine SQ.seqExit (by nofun) ?_
                  refine SQ.ret1 (t := 6) (v := .bool false) (.inr rfl) (by kernel_rfl) (by kernel_rfl) ?_
                  refine ⟨_, rfl, ?_, M44.bel⟩
                  rw [hD]
                  rw [once_far20 (by dsimp only; omega) (by dsimp only; omega), ui, vi, hu, hv, Option.some.injEq, Imp.mk.injEq]
                  exact no_iff (by rintro ⟨q1, q2, q3⟩; exact ‹¬ _› ‹_›)
              · skip
                have ph46 : ¬ (un = vn) := of_decide_eq_false h46
                refine SU.eqAgg (d := 54) (t := 75) (xs := #[.string un, .int .u32 uk]) (ys := #[.string vn, .int .u32 vk]) (r := ((un.toList == vn.toList) && ((uk == vk) && true))) (z := false) (by rw [(str_beq _ _).trans h46]; rfl) (by kernel_rfl) (by kernel_rfl) (by kernel_rfl) (by kernel_rfl) (fun y => (eqf_at (i := 0) (ft := 9) (off := 0) (a := .string un) (b := .string vn) (r := (un.toList == vn.toList)) (by kernel_rfl) (by kernel_rfl) (by kernel_rfl) (run_equalIn_string y 9998 _ _ _ Try.underlying9) (eqf_at (i := 1) (ft := 30) (off := 1) (a := .int .u32 uk) (b := .int .u32 vk) (r := (uk == vk)) (by kernel_rfl) (by kernel_rfl) (by kernel_rfl) (run_equalIn_int y 9998 _ _ _ _ _ Try.underlying30) (eqf_end (i := 2) (by kernel_rfl))))) ?_
                refine SU.pick (d := 55) (v := .bool false) (by kernel_rfl) ?_
                refine SU.run (d := 6) (v := .bool false) (fun y hy => by kernel_rfl) ?_
                refine SU.done ?_
                refine SC.next ?_
                refine SC.keep (l' := [(3, .pointer (some ⟨g1, 0, none⟩)), (4, .pointer (some ⟨g5, 0, none⟩)), (5, .pointer (some ⟨g9, 0, none⟩)), (6, .bool false)]) [3, 4, 5, 6] (by kernel_rfl) ?_
                refine SC.ret (by kernel_rfl) ?_
                refine SQ.blockRet ?_
                refine SQ.seqExit (by nofun) ?_
                refine SQ.ret1 (t := 6) (v := .bool false) (.inr rfl) (by kernel_rfl) (by kernel_rfl) ?_
                refine ⟨_, rfl, ?_, M44.bel⟩
                rw [hD]
                rw [once_far20 (by dsimp only; omega) (by dsimp only; omega), ui, vi, hu, hv, Option.some.injEq, Imp.mk.injEq]
                exact no_iff (by rintro ⟨q1, q2, q3⟩; exact ‹¬ _› ‹_›)
            · skip
              have ph45 : ¬ (ri = si) := of_decide_eq_false h45
              refine SU.bool (d := 32) (x := (ri == si)) (z := false) ((int_beq _ _).trans h45) (fun y hy => by kernel_rfl) ?_
              refine SU.run (d := 33) (v := .bool false) (fun y hy => by kernel_rfl) ?_
              refine SU.offs [6, 7, 8, 9, 10, 11, 12, 13, 14, 15, 16, 17, 18, 19, 20, 21, 22, 23, 24, 25, 26] (qs := [27, 28]) rfl (by kernel_rfl) ?_
              refine SU.pick (d := 55) (v := .bool false) (by kernel_rfl) ?_
              refine SU.run (d := 6) (v := .bool false) (fun y hy => by kernel_rfl) ?_
              refine SU.done ?_
              refine SC.next ?_
              refine SC.ret (by kernel_rfl) ?_
              refine SQ.blockRet ?_
              refine SQ.seqExit (by nofun) ?_
              refine SQ.ret1 (t := 6) (v := .bool false) (.inr rfl) (by kernel_rfl) (by kernel_rfl) ?_
              refine ⟨_, rfl, ?_, M44.bel⟩
              rw [hD]
              rw [once_far20 (by dsimp only; omega) (by dsimp only; omega), ui, vi, hu, hv, Option.some.injEq, Imp.mk.injEq]
              exact no_iff (by rintro ⟨q1, q2, q3⟩; exact ‹¬ _› ‹_›)
          · skip
            have ph41 : ¬ ((0 : Int) < rm) := of_decide_eq_false h41
            omega
        · skip
          have ph40 : ¬ (sm = (0 : Int)) := of_decide_eq_false h40
          refine SU.bool (d := 21) (x := (sm == (0 : Int))) (z := false) ((int_beq _ _).trans h40) (fun y hy => by kernel_rfl) ?_
          refine SU.run (d := 22) (v := .bool true) (fun y hy => by kernel_rfl) ?_
          refine SU.pick (d := 23) (v := .bool true) (by kernel_rfl) ?_
          refine SU.run (d := 9) (v := .bool true) (fun y hy => by kernel_rfl) ?_
          refine SU.done ?_
          refine SC.next ?_
          refine SC.keep (l' := [(3, .pointer (some ⟨g1, 0, none⟩)), (4, .pointer (some ⟨g5, 0, none⟩)), (5, .pointer (some ⟨g9, 0, none⟩)), (6, .bool false), (9, .bool true)]) [3, 4, 5, 6, 9] (by kernel_rfl) ?_
          refine SC.yes (by kernel_rfl) ?_
          refine SC.seq (by kernel_rfl) ?_
          refine SC.region [0] (by kernel_rfl) (by kernel_rfl) ?_
          refine SL.run (d := 6) (v := .bool false) (by kernel_rfl) ?_
          refine SL.nil ?_
          refine SC.next ?_
          refine SC.ret (by kernel_rfl) ?_
          refine SQ.blockRet ?_
          refine SQ.seqExit (by nofun) ?_
          refine SQ.ret1 (t := 6) (v := .bool false) (.inr rfl) (by kernel_rfl) (by kernel_rfl) ?_
          refine ⟨_, rfl, ?_, M21.bel⟩
          rw [hD]
          simp only [ownB, decide_eq_true_eq, decide_eq_false_iff_not] at hor hos
          exact no_iff (once_part (by dsimp only; omega))
      · skip
        have ph39 : ¬ (rm = (0 : Int)) := of_decide_eq_false h39
        refine SU.bool (d := 18) (x := (rm == (0 : Int))) (z := false) ((int_beq _ _).trans h39) (fun y hy => by kernel_rfl) ?_
        refine SU.run (d := 19) (v := .pointer (some ⟨g9, 0, none⟩)) (fun y hy => by kernel_rfl) ?_
        refine SU.load (d := 20) (t := 3) (b := .pointer (some ⟨g9, 0, none⟩)) (v := .int .i64 sm) (by kernel_rfl) (fun y hy => ((M21.call hy).ldCell 0 rfl (j := 0) (v := .int .i64 sm) rfl Try.underlying3 rfl)) ?_
        rcases Bool.eq_false_or_eq_true (decide (sm = (0 : Int))) with h48 | h48
        · skip
          have ph48 : sm = (0 : Int) := of_decide_eq_true h48
          refine SU.bool (d := 21) (x := (sm == (0 : Int))) (z := true) ((int_beq _ _).trans h48) (fun y hy => by kernel_rfl) ?_
          refine SU.run (d := 22) (v := .bool true) (fun y hy => by kernel_rfl) ?_
          refine SU.pick (d := 23) (v := .bool true) (by kernel_rfl) ?_
          refine SU.run (d := 9) (v := .bool true) (fun y hy => by kernel_rfl) ?_
          refine SU.done ?_
          refine SC.next ?_
          refine SC.keep (l' := [(3, .pointer (some ⟨g1, 0, none⟩)), (4, .pointer (some ⟨g5, 0, none⟩)), (5, .pointer (some ⟨g9, 0, none⟩)), (6, .bool false), (9, .bool true)]) [3, 4, 5, 6, 9] (by kernel_rfl) ?_
          refine SC.yes (by kernel_rfl) ?_
          refine SC.seq (by kernel_rfl) ?_
          refine SC.region [0] (by kernel_rfl) (by kernel_rfl) ?_
          refine SL.run (d := 6) (v := .bool false) (by kernel_rfl) ?_
          refine SL.nil ?_
          refine SC.next ?_
          refine SC.ret (by kernel_rfl) ?_
          refine SQ.blockRet ?_
          refine SQ.seqExit (by nofun) ?_
          refine SQ.ret1 (t := 6) (v := .bool false) (.inr rfl) (by kernel_rfl) (by kernel_rfl) ?_
          refine ⟨_, rfl, ?_, M21.bel⟩
          rw [hD]
          simp only [ownB, decide_eq_true_eq, decide_eq_false_iff_not] at hor hos
          exact no_iff (once_part (by dsimp only; omega))
        · skip
          have ph48 : ¬ (sm = (0 : Int)) := of_decide_eq_false h48
          refine SU.bool (d := 21) (x := (sm == (0 : Int))) (z := false) ((int_beq _ _).trans h48) (fun y hy => by kernel_rfl) ?_
          refine SU.run (d := 22) (v := .bool false) (fun y hy => by kernel_rfl) ?_
          refine SU.pick (d := 23) (v := .bool false) (by kernel_rfl) ?_
          refine SU.run (d := 9) (v := .bool false) (fun y hy => by kernel_rfl) ?_
          refine SU.done ?_
          refine SC.next ?_
          refine SC.keep (l' := [(3, .pointer (some ⟨g1, 0, none⟩)), (4, .pointer (some ⟨g5, 0, none⟩)), (5, .pointer (some ⟨g9, 0, none⟩)), (6, .bool false), (9, .bool false)]) [3, 4, 5, 6, 9] (by kernel_rfl) ?_
          refine SC.no (by kernel_rfl) ?_
          refine SC.seq (by kernel_rfl) ?_
          refine SC.region [0, 1, 2, 3] (by kernel_rfl) (by kernel_rfl) ?_
          refine SL.run (d := 25) (v := .pointer (some ⟨g5, 0, none⟩)) (by kernel_rfl) ?_
          refine SL.load (d := 26) (t := 3) (a := .pointer (some ⟨g5, 0, none⟩)) (v := .int .i64 rm) (by kernel_rfl) (M21.ldCell 1 rfl (j := 0) (v := .int .i64 rm) rfl Try.underlying3 rfl) ?_
          rcases Bool.eq_false_or_eq_true (decide ((0 : Int) < rm)) with h49 | h49
          · skip
            have ph49 : (0 : Int) < rm := of_decide_eq_true h49
            obtain ⟨ub, uo, ⟨un, uk⟩, rfl, hub, hu, _, huc⟩ := Rows.elem (hx.imps : Rows impD w ⟨xa1, xc1, xl1⟩) (i := (rm - 1).toNat) (by omega)
            obtain ⟨vb, vo, ⟨vn, vk⟩, rfl, hvb, hv, _, hvc⟩ := Rows.elem (hy.imps : Rows impD w ⟨ya1, yc1, yl1⟩) (i := (sm - 1).toNat) (by omega)
            refine SL.bool (d := 27) (x := (decide ((0 : Int) < rm))) (y := true) h49 (by kernel_rfl) ?_
            refine SL.run (d := 24) (v := .bool true) (by kernel_rfl) ?_
            refine SL.nil ?_
            refine SC.next ?_
            refine SC.yes (by kernel_rfl) ?_
            refine SC.seq (by kernel_rfl) ?_
            refine SC.mix [] [0, 1, 2, 3, 4, 5, 6, 7, 8, 9, 10, 11, 12, 13, 14, 15, 16, 17, 18, 19, 20, 21, 22, 23, 24, 25, 26, 27, 28] (by kernel_rfl) (by kernel_rfl) (by kernel_rfl) (PanOk.seq (PanOk.block (PanOk.seq PanOk.body))) ?_
            intro w50 hb51
            have M52 := M21.call hb51
            refine SM.last ?_
            refine SU.run (d := 28) (v := .pointer (some ⟨g5, 1, none⟩)) (fun y hy => by kernel_rfl) ?_
            refine SU.load (d := 29) (t := 3) (b := .pointer (some ⟨g5, 1, none⟩)) (v := .int .i64 ri) (by kernel_rfl) (fun y hy => ((M52.call hy).ldCell 1 rfl (j := 1) (v := .int .i64 ri) rfl Try.underlying3 rfl)) ?_
            refine SU.run (d := 30) (v := .pointer (some ⟨g9, 1, none⟩)) (fun y hy => by kernel_rfl) ?_
            refine SU.load (d := 31) (t := 3) (b := .pointer (some ⟨g9, 1, none⟩)) (v := .int .i64 si) (by kernel_rfl) (fun y hy => ((M52.call hy).ldCell 0 rfl (j := 1) (v := .int .i64 si) rfl Try.underlying3 rfl)) ?_
            rcases Bool.eq_false_or_eq_true (decide (ri = si)) with h53 | h53
            · skip
              have ph53 : ri = si := of_decide_eq_true h53
              refine SU.bool (d := 32) (x := (ri == si)) (z := true) ((int_beq _ _).trans h53) (fun y hy => by kernel_rfl) ?_
              refine SU.run (d := 33) (v := .bool true) (fun y hy => by kernel_rfl) ?_
              refine SU.load (d := 34) (t := 54) (b := .pointer (some ⟨g1, 0, none⟩)) (v := .pointer (some ⟨gp, 0, none⟩)) (by kernel_rfl) (fun y hy => ((M52.call hy).ldCell 2 rfl (j := 0) (v := .pointer (some ⟨gp, 0, none⟩)) rfl Try.underlying54 rfl)) ?_
              refine SU.run (d := 35) (v := .pointer (some ⟨gp, 0, none⟩)) (fun y hy => by kernel_rfl) ?_
              refine SU.run (d := 36) (v := .pointer (some ⟨gp, 0, none⟩)) (fun y hy => by kernel_rfl) ?_
              refine SU.run (d := 37) (v := .pointer (some ⟨gp, 1, none⟩)) (fun y hy => by kernel_rfl) ?_
              refine SU.load (d := 38) (t := 22) (b := .pointer (some ⟨gp, 1, none⟩)) (v := .slice (some ⟨ub, uo, none⟩) xl1.length xc1) (by kernel_rfl) (fun y hy => (ld_one ((M52.call hy).old hgp (hpc 1 _ rfl)) Try.underlying22 rfl)) ?_
              refine SU.run (d := 39) (v := .pointer (some ⟨g5, 0, none⟩)) (fun y hy => by kernel_rfl) ?_
              refine SU.load (d := 40) (t := 3) (b := .pointer (some ⟨g5, 0, none⟩)) (v := .int .i64 rm) (by kernel_rfl) (fun y hy => ((M52.call hy).ldCell 1 rfl (j := 0) (v := .int .i64 rm) rfl Try.underlying3 rfl)) ?_
              refine SU.int (d := 41) (q := .i64) (x := IntKind.wrap .i64 (rm - (1 : Int))) (z := rm - (1 : Int)) (wr64 (by omega) (by omega) (by omega)) (fun y hy => by kernel_rfl) ?_
              refine SU.index (d := 42) (t := 22) (e := 75) (b := ub) (o := uo) (len := xl1.length) (cap := xc1) (sz := 2) (k := .i64) (m := rm - (1 : Int)) ((rm - (1 : Int)).toNat) (by kernel_rfl) Try.underlying22 (by kernel_rfl) (by omega) (by omega) ?_
              refine SU.load (d := 43) (t := 75) (b := .pointer (some ⟨ub, uo + ((rm - (1 : Int)).toNat) * 2, none⟩)) (v := .agg #[.string un, .int .u32 uk]) (by kernel_rfl) (fun y hy => (ld_mid (cs := [.string un, .int .u32 uk]) (fun j v hv => (M52.call hy).old hub (huc j v hv)) Try.underlying75 rfl (by kernel_rfl) rfl)) ?_
              refine SU.load (d := 44) (t := 54) (b := .pointer (some ⟨g1, 0, none⟩)) (v := .pointer (some ⟨gp, 0, none⟩)) (by kernel_rfl) (fun y hy => ((M52.call hy).ldCell 2 rfl (j := 0) (v := .pointer (some ⟨gp, 0, none⟩)) rfl Try.underlying54 rfl)) ?_
              refine SU.run (d := 45) (v := .pointer (some ⟨gp, 0, none⟩)) (fun y hy => by kernel_rfl) ?_
              refine SU.run (d := 46) (v := .pointer (some ⟨gp, 4, none⟩)) (fun y hy => by kernel_rfl) ?_
              refine SU.run (d := 47) (v := .pointer (some ⟨gp, 5, none⟩)) (fun y hy => by kernel_rfl) ?_
              refine SU.load (d := 48) (t := 22) (b := .pointer (some ⟨gp, 5, none⟩)) (v := .slice (some ⟨vb, vo, none⟩) yl1.length yc1) (by kernel_rfl) (fun y hy => (ld_one ((M52.call hy).old hgp (hpc 5 _ rfl)) Try.underlying22 rfl)) ?_
              refine SU.run (d := 49) (v := .pointer (some ⟨g9, 0, none⟩)) (fun y hy => by kernel_rfl) ?_
              refine SU.load (d := 50) (t := 3) (b := .pointer (some ⟨g9, 0, none⟩)) (v := .int .i64 sm) (by kernel_rfl) (fun y hy => ((M52.call hy).ldCell 0 rfl (j := 0) (v := .int .i64 sm) rfl Try.underlying3 rfl)) ?_
              refine SU.int (d := 51) (q := .i64) (x := IntKind.wrap .i64 (sm - (1 : Int))) (z := sm - (1 : Int)) (wr64 (by omega) (by omega) (by omega)) (fun y hy => by kernel_rfl) ?_
              refine SU.index (d := 52) (t := 22) (e := 75) (b := vb) (o := vo) (len := yl1.length) (cap := yc1) (sz := 2) (k := .i64) (m := sm - (1 : Int)) ((sm - (1 : Int)).toNat) (by kernel_rfl) Try.underlying22 (by kernel_rfl) (by omega) (by omega) ?_
              refine SU.load (d := 53) (t := 75) (b := .pointer (some ⟨vb, vo + ((sm - (1 : Int)).toNat) * 2, none⟩)) (v := .agg #[.string vn, .int .u32 vk]) (by kernel_rfl) (fun y hy => (ld_mid (cs := [.string vn, .int .u32 vk]) (fun j v hv => (M52.call hy).old hvb (hvc j v hv)) Try.underlying75 rfl (by kernel_rfl) rfl)) ?_
              rcases Bool.eq_false_or_eq_true (decide (un = vn)) with h54 | h54
              · skip
                have ph54 : un = vn := of_decide_eq_true h54
                rcases Bool.eq_false_or_eq_true (decide (uk = vk)) with h55 | h55
                · skip
                  have ph55 : uk = vk := of_decide_eq_true h55
                  refine SU.eqAgg (d := 54) (t := 75) (xs := #[.string un, .int .u32 uk]) (ys := #[.string vn, .int .u32 vk]) (r := ((un.toList == vn.toList) && ((uk == vk) && true))) (z := true) (by rw [(str_beq _ _).trans h54, (int_beq _ _).trans h55]; rfl) (by kernel_rfl) (by kernel_rfl) (by kernel_rfl) (by kernel_rfl) (fun y => (eqf_at (i := 0) (ft := 9) (off := 0) (a := .string un) (b := .string vn) (r := (un.toList == vn.toList)) (by kernel_rfl) (by kernel_rfl) (by kernel_rfl) (run_equalIn_string y 9998 _ _ _ Try.underlying9) (eqf_at (i := 1) (ft := 30) (off := 1) (a := .int .u32 uk) (b := .int .u32 vk) (r := (uk == vk)) (by kernel_rfl) (by kernel_rfl) (by kernel_rfl) (run_equalIn_int y 9998 _ _ _ _ _ Try.underlying30) (eqf_end (i := 2) (by kernel_rfl))))) ?_
                  refine SU.pick (d := 55) (v := .bool true) (by kernel_rfl) ?_
                  refine SU.run (d := 6) (v := .bool true) (fun y hy => by kernel_rfl) ?_
                  refine SU.done ?_
                  refine SC.next ?_
                  refine SC.keep (l' := [(3, .pointer (some ⟨g1, 0, none⟩)), (4, .pointer (some ⟨g5, 0, none⟩)), (5, .pointer (some ⟨g9, 0, none⟩)), (6, .bool true)]) [3, 4, 5, 6] (by kernel_rfl) ?_
                  refine SC.ret (by kernel_rfl) ?_
                  refine SQ.blockRet ?_
                  refine SQ.seqExit (by nofun) ?_
                  refine SQ.ret1 (t := 6) (v := .bool true) (.inr rfl) (by kernel_rfl) (by kernel_rfl) ?_
                  refine ⟨_, rfl, ?_, M52.bel⟩
                  rw [hD]
                  rw [once_far20 (by dsimp only; omega) (by dsimp only; omega), ui, vi, hu, hv, Option.some.injEq, Imp.mk.injEq]
                  exact yes_iff (by refine ⟨‹_›, ‹_›, ‹_›⟩)
                · skip
                  have ph55 : ¬ (uk = vk) := of_decide_eq_false h55
                  refine SU.eqAgg (d := 54) (t := 75) (xs := #[.string un, .int .u32 uk]) (ys := #[.string vn, .int .u32 vk]) (r := ((un.toList == vn.toList) && ((uk == vk) && true))) (z := false) (by rw [(str_beq _ _).trans h54, (int_beq _ _).trans h55]; rfl) (by kernel_rfl) (by kernel_rfl) (by kernel_rfl) (by kernel_rfl) (fun y => (eqf_at (i := 0) (ft := 9) (off := 0) (a := .string un) (b := .string vn) (r := (un.toList == vn.toList)) (by kernel_rfl) (by kernel_rfl) (by kernel_rfl) (run_equalIn_string y 9998 _ _ _ Try.underlying9) (eqf_at (i := 1) (ft := 30) (off := 1) (a := .int .u32 uk) (b := .int .u32 vk) (r := (uk == vk)) (by kernel_rfl) (by kernel_rfl) (by kernel_rfl) (run_equalIn_int y 9998 _ _ _ _ _ Try.underlying30) (eqf_end (i := 2) (by kernel_rfl))))) ?_
                  refine SU.pick (d := 55) (v := .bool false) (by kernel_rfl) ?_
                  refine SU.run (d := 6) (v := .bool false) (fun y hy => by kernel_rfl) ?_
                  refine SU.done ?_
                  refine SC.next ?_
                  refine SC.keep (l' := [(3, .pointer (some ⟨g1, 0, none⟩)), (4, .pointer (some ⟨g5, 0, none⟩)), (5, .pointer (some ⟨g9, 0, none⟩)), (6, .bool false)]) [3, 4, 5, 6] (by kernel_rfl) ?_
                  refine SC.ret (by kernel_rfl) ?_
                  refine SQ.blockRet ?_
                  refine SQ.seqExit (by nofun) ?_
                  refine SQ.ret1 (t := 6) (v := .bool false) (.inr rfl) (by kernel_rfl) (by kernel_rfl) ?_
                  refine ⟨_, rfl, ?_, M52.bel⟩
                  rw [hD]
                  rw [once_far20 (by dsimp only; omega) (by dsimp only; omega), ui, vi, hu, hv, Option.some.injEq, Imp.mk.injEq]
                  exact no_iff (by rintro ⟨q1, q2, q3⟩; exact ‹¬ _› ‹_›)
              · skip
                have ph54 : ¬ (un = vn) := of_decide_eq_false h54
                refine SU.eqAgg (d := 54) (t := 75) (xs := #[.string un, .int .u32 uk]) (ys := #[.string vn, .int .u32 vk]) (r := ((un.toList == vn.toList) && ((uk == vk) && true))) (z := false) (by rw [(str_beq _ _).trans h54]; rfl) (by kernel_rfl) (by kernel_rfl) (by kernel_rfl) (by kernel_rfl) (fun y => (eqf_at (i := 0) (ft := 9) (off := 0) (a := .string un) (b := .string vn) (r := (un.toList == vn.toList)) (by kernel_rfl) (by kernel_rfl) (by kernel_rfl) (run_equalIn_string y 9998 _ _ _ Try.underlying9) (eqf_at (i := 1) (ft := 30) (off := 1) (a := .int .u32 uk) (b := .int .u32 vk) (r := (uk == vk)) (by kernel_rfl) (by kernel_rfl) (by kernel_rfl) (run_equalIn_int y 9998 _ _ _ _ _ Try.underlying30) (eqf_end (i := 2) (by kernel_rfl))))) ?_
                refine SU.pick (d := 55) (v := .bool false) (by kernel_rfl) ?_
                refine SU.run (d := 6) (v := .bool false) (fun y hy => by kernel_rfl) ?_
                refine SU.done ?_
                refine SC.next ?_
                refine SC.keep (l' := [(3, .pointer (some ⟨g1, 0, none⟩)), (4, .pointer (some ⟨g5, 0, none⟩)), (5, .pointer (some ⟨g9, 0, none⟩)), (6, .bool false)]) [3, 4, 5, 6] (by kernel_rfl) ?_
                refine SC.ret (by kernel_rfl) ?_
                refine SQ.blockRet ?_
                refine SQ.seqExit (by nofun) ?_
                refine SQ.ret1 (t := 6) (v := .bool false) (.inr rfl) (by kernel_rfl) (by kernel_rfl) ?_
                refine ⟨_, rfl, ?_, M52.bel⟩
                rw [hD]
                rw [once_far20 (by dsimp only; omega) (by dsimp only; omega), ui, vi, hu, hv, Option.some.injEq, Imp.mk.injEq]
                exact no_iff (by rintro ⟨q1, q2, q3⟩; exact ‹¬ _› ‹_›)
            · skip
              have ph53 : ¬ (ri = si) := of_decide_eq_false h53
              refine SU.bool (d := 32) (x := (ri == si)) (z := false) ((int_beq _ _).trans h53) (fun y hy => by kernel_rfl) ?_
              refine SU.run (d := 33) (v := .bool false) (fun y hy => by kernel_rfl) ?_
              refine SU.offs [6, 7, 8, 9, 10, 11, 12, 13, 14, 15, 16, 17, 18, 19, 20, 21, 22, 23, 24, 25, 26] (qs := [27, 28]) rfl (by kernel_rfl) ?_
              refine SU.pick (d := 55) (v := .bool false) (by kernel_rfl) ?_
              refine SU.run (d := 6) (v := .bool false) (fun y hy => by kernel_rfl) ?_
              refine SU.done ?_
              refine SC.next ?_
              refine SC.ret (by kernel_rfl) ?_
              refine SQ.blockRet ?_
              refine SQ.seqExit (by nofun) ?_
              refine SQ.ret1 (t := 6) (v := .bool false) (.inr rfl) (by kernel_rfl) (by kernel_rfl) ?_
              refine ⟨_, rfl, ?_, M52.bel⟩
              rw [hD]
              rw [once_far20 (by dsimp only; omega) (by dsimp only; omega), ui, vi, hu, hv, Option.some.injEq, Imp.mk.injEq]
              exact no_iff (by rintro ⟨q1, q2, q3⟩; exact ‹¬ _› ‹_›)
          · skip
            have ph49 : ¬ ((0 : Int) < rm) := of_decide_eq_false h49
            omega
theorem means_any (x y : Fc) (rm ri sm si : Int) (gp Bm : Nat) (w0 w : World) (hx : x.Rd w0) (hy : y.Rd w0) (mx : mayFace x.d = true) (my : mayFace y.d = true) (hr : i64In rm ∧ i64In ri) (hs : i64In sm ∧ i64In si) (lr : leadsB x.d ⟨rm, ri⟩ = true) (ls : leadsB y.d ⟨sm, si⟩ = true) (hp : Pr x y w0 w gp Bm []) :
    Calls Try.prog 32 #[.pointer (some ⟨gp, 0, none⟩), .agg #[.int .i64 rm, .int .i64 ri], .agg #[.int .i64 sm, .int .i64 si]] w fun e w' => ∃ R : Bool, e = .returned (.bool R) ∧ (R = true ↔ onceP x.d y.d (Alike x.d y.d) ⟨rm, ri⟩ ⟨sm, si⟩) ∧ Below w0.heap.size w0 w' := by
  by_cases hf : 0 < rm ∨ 0 < sm
  · refine (means_far x y rm ri sm si gp Bm w (hx.bel hp.bel) (hy.bel hp.bel) hr hs lr ls hp.pr hf).mono ?_
    rintro e w' ⟨R, h1, h2, h3⟩
    exact ⟨R, h1, h2, bel_then hp.bel h3⟩
  · refine (means_all x y w0 gp Bm hx hy mx my (x.d.types.length * y.d.types.length + 1) [] rm ri sm si w ⟨List.nodup_nil, fun p h => (by cases h)⟩ (by simp) (leads_near mx lr (fun h => hf (.inl h))) (leads_near my ls (fun h => hf (.inr h))) hp).mono ?_
    rintro e w' ⟨ok, T', h1, ⟨h2, h3, h4⟩, h5, h6⟩
    refine ⟨ok, h1, ⟨fun h => ?_, fun h => ?_⟩, h5.bel⟩
    · obtain ⟨q1, q2⟩ := h3 h
      exact once_alike (fun i j hij => (q2 (i, j) hij).resolve_left (by simp)) q1
    · cases ok with
      | true => rfl
      | false => exact absurd h (h4 rfl)
theorem fmeans_walk (x y : Fc) (rm ri sm si : Int) (w : World) (hx : x.Rd w) (hy : y.Rd w) (hr : i64In rm ∧ i64In ri) (hs : i64In sm ∧ i64In si) :
    Calls Try.prog 14 #[x.val, .agg #[.int .i64 rm, .int .i64 ri], y.val, .agg #[.int .i64 sm, .int .i64 si]] w fun e w' => ∃ R : Bool, e = .returned (.bool R) ∧ (R = true ↔ MeansP x.d y.d ⟨rm, ri⟩ ⟨sm, si⟩) ∧ Below w.heap.size w w' := by
  obtain ⟨D, hD⟩ : ∃ D : Prop, D = MeansP x.d y.d ⟨rm, ri⟩ ⟨sm, si⟩ := ⟨_, rfl⟩
  rw [← hD]
  obtain ⟨mx, hmx⟩ : ∃ b, mayFace x.d = b := ⟨_, rfl⟩
  obtain ⟨my, hmy⟩ : ∃ b, mayFace y.d = b := ⟨_, rfl⟩
  obtain ⟨lx, hlx⟩ : ∃ b, leadsB x.d ⟨rm, ri⟩ = b := ⟨_, rfl⟩
  obtain ⟨ly, hly⟩ : ∃ b, leadsB y.d ⟨sm, si⟩ = b := ⟨_, rfl⟩
  obtain ⟨xn, ⟨xa1, xc1, xl1⟩, ⟨xa2, xc2, xl2⟩, ⟨xa3, xc3, xl3⟩⟩ := x
  obtain ⟨yn, ⟨ya1, yc1, yl1⟩, ⟨ya2, yc2, yl2⟩, ⟨ya3, yc3, yl3⟩⟩ := y
  refine SC.enter (vs := [.agg #[.string xn, .slice xa1 xl1.length xc1, .slice xa2 xl2.length xc2, .slice xa3 xl3.length xc3], .agg #[.int .i64 rm, .int .i64 ri], .agg #[.string yn, .slice ya1 yl1.length yc1, .slice ya2 yl2.length yc2, .slice ya3 yl3.length yc3], .agg #[.int .i64 sm, .int .i64 si]]) (n := 37) (l := [(0, .agg #[.string xn, .slice xa1 xl1.length xc1, .slice xa2 xl2.length xc2, .slice xa3 xl3.length xc3]), (1, .agg #[.int .i64 rm, .int .i64 ri]), (2, .agg #[.string yn, .slice ya1 yl1.length yc1, .slice ya2 yl2.length yc2, .slice ya3 yl3.length yc3]), (3, .agg #[.int .i64 sm, .int .i64 si])]) Try.func14 (by kernel_rfl) (by kernel_rfl) (by kernel_rfl) (by kernel_rfl) ?_
  have M0 := Mem.start w
  refine SC.seq (by kernel_rfl) ?_
  refine SC.region [0, 1, 2, 3, 4] (by kernel_rfl) (by kernel_rfl) ?_
  refine SL.boxM (d := 4) (t := 26) (v := .agg #[.string xn, .slice xa1 xl1.length xc1, .slice xa2 xl2.length xc2, .slice xa3 xl3.length xc3]) (cs := #[.string xn, .slice xa1 xl1.length xc1, .slice xa2 xl2.length xc2, .slice xa3 xl3.length xc3]) M0 (by kernel_rfl) rfl ?_
  intro g1 w2 hb3 ⟨bg1, lg1⟩ M4
  refine SL.boxM (d := 5) (t := 34) (v := .agg #[.int .i64 rm, .int .i64 ri]) (cs := #[.int .i64 rm, .int .i64 ri]) M4 (by kernel_rfl) rfl ?_
  intro g5 w6 hb7 ⟨bg5, lg5⟩ M8
  refine SL.boxM (d := 6) (t := 26) (v := .agg #[.string yn, .slice ya1 yl1.length yc1, .slice ya2 yl2.length yc2, .slice ya3 yl3.length yc3]) (cs := #[.string yn, .slice ya1 yl1.length yc1, .slice ya2 yl2.length yc2, .slice ya3 yl3.length yc3]) M8 (by kernel_rfl) rfl ?_
  intro g9 w10 hb11 ⟨bg9, lg9⟩ M12
  refine SL.boxM (d := 7) (t := 34) (v := .agg #[.int .i64 sm, .int .i64 si]) (cs := #[.int .i64 sm, .int .i64 si]) M12 (by kernel_rfl) rfl ?_
  intro g13 w14 hb15 ⟨bg13, lg13⟩ M16
  refine SL.run (d := 8) (v := .bool false) (by kernel_rfl) ?_
  refine SL.nil ?_
  refine SC.next ?_
  refine SC.seq (by kernel_rfl) ?_
  refine SC.seq (by kernel_rfl) ?_
  refine SC.region [0, 1, 2, 3, 4, 5, 6, 7, 8, 9, 10, 11, 12, 13, 14, 15, 16, 17, 18, 19] (by kernel_rfl) (by kernel_rfl) ?_
  refine SL.load (d := 9) (t := 26) (a := .pointer (some ⟨g1, 0, none⟩)) (v := .agg #[.string xn, .slice xa1 xl1.length xc1, .slice xa2 xl2.length xc2, .slice xa3 xl3.length xc3]) (by kernel_rfl) (M16.ldBox 3 rfl Try.underlying26 rfl (by kernel_rfl)) ?_
  refine SL.call (d := 10) (f := 20) (vs := [.agg #[.string xn, .slice xa1 xl1.length xc1, .slice xa2 xl2.length xc2, .slice xa3 xl3.length xc3]]) (by kernel_rfl) (by kernel_rfl) (by have := may_walk (⟨xn, ⟨xa1, xc1, xl1⟩, ⟨xa2, xc2, xl2⟩, ⟨xa3, xc3, xl3⟩⟩ : Fc) w14 (hx.bel M16.bel); rw [hmx] at this; exact this) ?_
  rintro e w17 ⟨rfl, hb18⟩
  refine ⟨_, rfl, ?_⟩
  have M19 := M16.call hb18
  cases mx
  · skip
    refine SL.run (d := 11) (v := .bool true) (by kernel_rfl) ?_
    refine SL.run (d := 12) (v := .bool true) (by kernel_rfl) ?_
    refine SL.offs [4, 5, 6] (is := [7, 8, 9, 10, 11, 12, 13, 14, 15, 16, 17, 18, 19]) rfl (by kernel_rfl) ?_
    refine SL.pick (d := 16) (v := .bool true) (by kernel_rfl) ?_
    refine SL.run (d := 17) (v := .bool true) (by kernel_rfl) ?_
    refine SL.offs [9, 10, 11, 12] (is := [13, 14, 15, 16, 17, 18, 19]) rfl (by kernel_rfl) ?_
    refine SL.pick (d := 22) (v := .bool true) (by kernel_rfl) ?_
    refine SL.run (d := 23) (v := .bool true) (by kernel_rfl) ?_
    refine SL.offs [15, 16, 17, 18] (is := [19]) rfl (by kernel_rfl) ?_
    refine SL.pick (d := 28) (v := .bool true) (by kernel_rfl) ?_
    refine SL.nil ?_
    refine SC.next ?_
    refine SC.yes (by kernel_rfl) ?_
    refine SC.seq (by kernel_rfl) ?_
    refine SC.region [0] (by kernel_rfl) (by kernel_rfl) ?_
    refine SL.run (d := 8) (v := .bool false) (by kernel_rfl) ?_
    refine SL.nil ?_
    refine SC.next ?_
    refine SC.ret (by kernel_rfl) ?_
    refine SQ.seqExit (by nofun) ?_
    refine SQ.ret1 (t := 8) (v := .bool false) (.inr rfl) (by kernel_rfl) (by kernel_rfl) ?_
    refine ⟨_, rfl, ?_, M19.bel⟩
    rw [hD]
    exact no_iff (fun k => by have := k.1; rw [hmx] at this; cases this)
  · skip
    refine SL.run (d := 11) (v := .bool false) (by kernel_rfl) ?_
    refine SL.run (d := 12) (v := .bool false) (by kernel_rfl) ?_
    refine SL.load (d := 13) (t := 26) (a := .pointer (some ⟨g9, 0, none⟩)) (v := .agg #[.string yn, .slice ya1 yl1.length yc1, .slice ya2 yl2.length yc2, .slice ya3 yl3.length yc3]) (by kernel_rfl) (M19.ldBox 1 rfl Try.underlying26 rfl (by kernel_rfl)) ?_
    refine SL.call (d := 14) (f := 20) (vs := [.agg #[.string yn, .slice ya1 yl1.length yc1, .slice ya2 yl2.length yc2, .slice ya3 yl3.length yc3]]) (by kernel_rfl) (by kernel_rfl) (by have := may_walk (⟨yn, ⟨ya1, yc1, yl1⟩, ⟨ya2, yc2, yl2⟩, ⟨ya3, yc3, yl3⟩⟩ : Fc) w17 (hy.bel M19.bel); rw [hmy] at this; exact this) ?_
    rintro e w20 ⟨rfl, hb21⟩
    refine ⟨_, rfl, ?_⟩
    have M22 := M19.call hb21
    cases my
    · skip
      refine SL.run (d := 15) (v := .bool true) (by kernel_rfl) ?_
      refine SL.pick (d := 16) (v := .bool true) (by kernel_rfl) ?_
      refine SL.run (d := 17) (v := .bool true) (by kernel_rfl) ?_
      refine SL.offs [9, 10, 11, 12] (is := [13, 14, 15, 16, 17, 18, 19]) rfl (by kernel_rfl) ?_
      refine SL.pick (d := 22) (v := .bool true) (by kernel_rfl) ?_
      refine SL.run (d := 23) (v := .bool true) (by kernel_rfl) ?_
      refine SL.offs [15, 16, 17, 18] (is := [19]) rfl (by kernel_rfl) ?_
      refine SL.pick (d := 28) (v := .bool true) (by kernel_rfl) ?_
      refine SL.nil ?_
      refine SC.next ?_
      refine SC.keep (l' := [(4, .pointer (some ⟨g1, 0, none⟩)), (5, .pointer (some ⟨g5, 0, none⟩)), (6, .pointer (some ⟨g9, 0, none⟩)), (7, .pointer (some ⟨g13, 0, none⟩)), (8, .bool false), (28, .bool true)]) [4, 5, 6, 7, 8, 28] (by kernel_rfl) ?_
      refine SC.yes (by kernel_rfl) ?_
      refine SC.seq (by kernel_rfl) ?_
      refine SC.region [0] (by kernel_rfl) (by kernel_rfl) ?_
      refine SL.run (d := 8) (v := .bool false) (by kernel_rfl) ?_
      refine SL.nil ?_
      refine SC.next ?_
      refine SC.ret (by kernel_rfl) ?_
      refine SQ.seqExit (by nofun) ?_
      refine SQ.ret1 (t := 8) (v := .bool false) (.inr rfl) (by kernel_rfl) (by kernel_rfl) ?_
      refine ⟨_, rfl, ?_, M22.bel⟩
      rw [hD]
      exact no_iff (fun k => by have := k.2.1; rw [hmy] at this; cases this)
    · skip
      refine SL.run (d := 15) (v := .bool false) (by kernel_rfl) ?_
      refine SL.pick (d := 16) (v := .bool false) (by kernel_rfl) ?_
      refine SL.run (d := 17) (v := .bool false) (by kernel_rfl) ?_
      refine SL.load (d := 18) (t := 26) (a := .pointer (some ⟨g1, 0, none⟩)) (v := .agg #[.string xn, .slice xa1 xl1.length xc1, .slice xa2 xl2.length xc2, .slice xa3 xl3.length xc3]) (by kernel_rfl) (M22.ldBox 3 rfl Try.underlying26 rfl (by kernel_rfl)) ?_
      refine SL.load (d := 19) (t := 34) (a := .pointer (some ⟨g5, 0, none⟩)) (v := .agg #[.int .i64 rm, .int .i64 ri]) (by kernel_rfl) (M22.ldBox 2 rfl Try.underlying34 rfl (by kernel_rfl)) ?_
      refine SL.call (d := 20) (f := 31) (vs := [.agg #[.string xn, .slice xa1 xl1.length xc1, .slice xa2 xl2.length xc2, .slice xa3 xl3.length xc3], .agg #[.int .i64 rm, .int .i64 ri]]) (by kernel_rfl) (by kernel_rfl) (by have := leads_walk (⟨xn, ⟨xa1, xc1, xl1⟩, ⟨xa2, xc2, xl2⟩, ⟨xa3, xc3, xl3⟩⟩ : Fc) rm ri w20 hr; rw [hlx] at this; exact this) ?_
      rintro e w23 ⟨rfl, hb24⟩
      refine ⟨_, rfl, ?_⟩
      have M25 := M22.call hb24
      cases lx
      · skip
        refine SL.run (d := 21) (v := .bool true) (by kernel_rfl) ?_
        refine SL.pick (d := 22) (v := .bool true) (by kernel_rfl) ?_
        refine SL.run (d := 23) (v := .bool true) (by kernel_rfl) ?_
        refine SL.offs [15, 16, 17, 18] (is := [19]) rfl (by kernel_rfl) ?_
        refine SL.pick (d := 28) (v := .bool true) (by kernel_rfl) ?_
        refine SL.nil ?_
        refine SC.next ?_
        refine SC.keep (l' := [(4, .pointer (some ⟨g1, 0, none⟩)), (5, .pointer (some ⟨g5, 0, none⟩)), (6, .pointer (some ⟨g9, 0, none⟩)), (7, .pointer (some ⟨g13, 0, none⟩)), (8, .bool false), (28, .bool true)]) [4, 5, 6, 7, 8, 28] (by kernel_rfl) ?_
        refine SC.yes (by kernel_rfl) ?_
        refine SC.seq (by kernel_rfl) ?_
        refine SC.region [0] (by kernel_rfl) (by kernel_rfl) ?_
        refine SL.run (d := 8) (v := .bool false) (by kernel_rfl) ?_
        refine SL.nil ?_
        refine SC.next ?_
        refine SC.ret (by kernel_rfl) ?_
        refine SQ.seqExit (by nofun) ?_
        refine SQ.ret1 (t := 8) (v := .bool false) (.inr rfl) (by kernel_rfl) (by kernel_rfl) ?_
        refine ⟨_, rfl, ?_, M25.bel⟩
        rw [hD]
        exact no_iff (fun k => by have := k.2.2.1; rw [hlx] at this; cases this)
      · skip
        refine SL.run (d := 21) (v := .bool false) (by kernel_rfl) ?_
        refine SL.pick (d := 22) (v := .bool false) (by kernel_rfl) ?_
        refine SL.run (d := 23) (v := .bool false) (by kernel_rfl) ?_
        refine SL.load (d := 24) (t := 26) (a := .pointer (some ⟨g9, 0, none⟩)) (v := .agg #[.string yn, .slice ya1 yl1.length yc1, .slice ya2 yl2.length yc2, .slice ya3 yl3.length yc3]) (by kernel_rfl) (M25.ldBox 1 rfl Try.underlying26 rfl (by kernel_rfl)) ?_
        refine SL.load (d := 25) (t := 34) (a := .pointer (some ⟨g13, 0, none⟩)) (v := .agg #[.int .i64 sm, .int .i64 si]) (by kernel_rfl) (M25.ldBox 0 rfl Try.underlying34 rfl (by kernel_rfl)) ?_
        refine SL.call (d := 26) (f := 31) (vs := [.agg #[.string yn, .slice ya1 yl1.length yc1, .slice ya2 yl2.length yc2, .slice ya3 yl3.length yc3], .agg #[.int .i64 sm, .int .i64 si]]) (by kernel_rfl) (by kernel_rfl) (by have := leads_walk (⟨yn, ⟨ya1, yc1, yl1⟩, ⟨ya2, yc2, yl2⟩, ⟨ya3, yc3, yl3⟩⟩ : Fc) sm si w23 hs; rw [hly] at this; exact this) ?_
        rintro e w26 ⟨rfl, hb27⟩
        refine ⟨_, rfl, ?_⟩
        have M28 := M25.call hb27
        cases ly
        · skip
          refine SL.run (d := 27) (v := .bool true) (by kernel_rfl) ?_
          refine SL.pick (d := 28) (v := .bool true) (by kernel_rfl) ?_
          refine SL.nil ?_
          refine SC.next ?_
          refine SC.keep (l' := [(4, .pointer (some ⟨g1, 0, none⟩)), (5, .pointer (some ⟨g5, 0, none⟩)), (6, .pointer (some ⟨g9, 0, none⟩)), (7, .pointer (some ⟨g13, 0, none⟩)), (8, .bool false), (28, .bool true)]) [4, 5, 6, 7, 8, 28] (by kernel_rfl) ?_
          refine SC.yes (by kernel_rfl) ?_
          refine SC.seq (by kernel_rfl) ?_
          refine SC.region [0] (by kernel_rfl) (by kernel_rfl) ?_
          refine SL.run (d := 8) (v := .bool false) (by kernel_rfl) ?_
          refine SL.nil ?_
          refine SC.next ?_
          refine SC.ret (by kernel_rfl) ?_
          refine SQ.seqExit (by nofun) ?_
          refine SQ.ret1 (t := 8) (v := .bool false) (.inr rfl) (by kernel_rfl) (by kernel_rfl) ?_
          refine ⟨_, rfl, ?_, M28.bel⟩
          rw [hD]
          exact no_iff (fun k => by have := k.2.2.2.1; rw [hly] at this; cases this)
        · skip
          refine SL.run (d := 27) (v := .bool false) (by kernel_rfl) ?_
          refine SL.pick (d := 28) (v := .bool false) (by kernel_rfl) ?_
          refine SL.nil ?_
          refine SC.next ?_
          refine SC.keep (l' := [(4, .pointer (some ⟨g1, 0, none⟩)), (5, .pointer (some ⟨g5, 0, none⟩)), (6, .pointer (some ⟨g9, 0, none⟩)), (7, .pointer (some ⟨g13, 0, none⟩)), (8, .bool false), (28, .bool false)]) [4, 5, 6, 7, 8, 28] (by kernel_rfl) ?_
          refine SC.no (by kernel_rfl) ?_
          refine SC.skip (by kernel_rfl) ?_
          refine SC.next ?_
          refine SC.seq (by kernel_rfl) ?_
          refine SC.region [0, 1, 2, 3, 4, 5, 6, 7, 8] (by kernel_rfl) (by kernel_rfl) ?_
          refine SL.load (d := 29) (t := 26) (a := .pointer (some ⟨g1, 0, none⟩)) (v := .agg #[.string xn, .slice xa1 xl1.length xc1, .slice xa2 xl2.length xc2, .slice xa3 xl3.length xc3]) (by kernel_rfl) (M28.ldBox 3 rfl Try.underlying26 rfl (by kernel_rfl)) ?_
          refine SL.load (d := 30) (t := 26) (a := .pointer (some ⟨g9, 0, none⟩)) (v := .agg #[.string yn, .slice ya1 yl1.length yc1, .slice ya2 yl2.length yc2, .slice ya3 yl3.length yc3]) (by kernel_rfl) (M28.ldBox 1 rfl Try.underlying26 rfl (by kernel_rfl)) ?_
          refine SL.makeMapM (d := 31) (t := 55) 99 M28 (by kernel_rfl) (by kernel_rfl) ?_
          intro g29 w30 hb31 ⟨bg29, lg29⟩ M32
          refine SL.build (d := 32) (t := 57) (ps := [(0, .agg #[.string xn, .slice xa1 xl1.length xc1, .slice xa2 xl2.length xc2, .slice xa3 xl3.length xc3]), (1, .agg #[.string yn, .slice ya1 yl1.length yc1, .slice ya2 yl2.length yc2, .slice ya3 yl3.length yc3]), (2, .map (some g29))]) (cs := #[.string xn, .slice xa1 xl1.length xc1, .slice xa2 xl2.length xc2, .slice xa3 xl3.length xc3, .string yn, .slice ya1 yl1.length yc1, .slice ya2 yl2.length yc2, .slice ya3 yl3.length yc3, .map (some g29)]) (by kernel_rfl) (by kernel_rfl) ?_
          refine SL.boxM (d := 33) (t := 57) (v := .agg #[.string xn, .slice xa1 xl1.length xc1, .slice xa2 xl2.length xc2, .slice xa3 xl3.length xc3, .string yn, .slice ya1 yl1.length yc1, .slice ya2 yl2.length yc2, .slice ya3 yl3.length yc3, .map (some g29)]) (cs := #[.string xn, .slice xa1 xl1.length xc1, .slice xa2 xl2.length xc2, .slice xa3 xl3.length xc3, .string yn, .slice ya1 yl1.length yc1, .slice ya2 yl2.length yc2, .slice ya3 yl3.length yc3, .map (some g29)]) M32 (by kernel_rfl) rfl ?_
          intro g33 w34 hb35 ⟨bg33, lg33⟩ M36
          refine SL.load (d := 34) (t := 34) (a := .pointer (some ⟨g5, 0, none⟩)) (v := .agg #[.int .i64 rm, .int .i64 ri]) (by kernel_rfl) (M36.ldBox 4 rfl Try.underlying34 rfl (by kernel_rfl)) ?_
          refine SL.load (d := 35) (t := 34) (a := .pointer (some ⟨g13, 0, none⟩)) (v := .agg #[.int .i64 sm, .int .i64 si]) (by kernel_rfl) (M36.ldBox 2 rfl Try.underlying34 rfl (by kernel_rfl)) ?_
          have hpr : Pr (⟨xn, ⟨xa1, xc1, xl1⟩, ⟨xa2, xc2, xl2⟩, ⟨xa3, xc3, xl3⟩⟩ : Fc) (⟨yn, ⟨ya1, yc1, yl1⟩, ⟨ya2, yc2, yl2⟩, ⟨ya3, yc3, yl3⟩⟩ : Fc) w w34 g33 g29 [] := ⟨M36.bel, M36.at 0 rfl, M36.lo 0 rfl rfl, M36.lo 1 rfl rfl, SetMap.iff (M36.get 1 rfl : SetMap _ _ _ _ _ _) (fun z => ⟨fun h => h.elim, fun ⟨_, _, h, _⟩ => by simp at h⟩)⟩
          refine SL.call (d := 36) (f := 32) (vs := [.pointer (some ⟨g33, 0, none⟩), .agg #[.int .i64 rm, .int .i64 ri], .agg #[.int .i64 sm, .int .i64 si]]) (by kernel_rfl) (by kernel_rfl) (means_any (⟨xn, ⟨xa1, xc1, xl1⟩, ⟨xa2, xc2, xl2⟩, ⟨xa3, xc3, xl3⟩⟩ : Fc) (⟨yn, ⟨ya1, yc1, yl1⟩, ⟨ya2, yc2, yl2⟩, ⟨ya3, yc3, yl3⟩⟩ : Fc) rm ri sm si g33 g29 w w34 hx hy hmx hmy hr hs hlx hly hpr) ?_
          rintro e w37 ⟨R40, rfl, hmean, hb38⟩
          refine ⟨_, rfl, ?_⟩
          have M39 := Mem.only hb38
          refine SL.run (d := 8) (v := .bool R40) (by kernel_rfl) ?_
          refine SL.nil ?_
          refine SC.next ?_
          refine SC.ret (by kernel_rfl) ?_
          refine SQ.ret1 (t := 8) (v := .bool R40) (.inr rfl) (by kernel_rfl) (by kernel_rfl) ?_
          refine ⟨_, rfl, ?_, M39.bel⟩
          rw [hD]
          exact ⟨fun q => ⟨hmx, hmy, hlx, hly, hmean.1 q⟩, fun q => hmean.2 q.2.2.2.2⟩
theorem rmeans_walk (x y : Fc) (rm ri sm si : Int) (w : World) (hx : x.Rd w) (hy : y.Rd w) (hr : i64In rm ∧ i64In ri) (hs : i64In sm ∧ i64In si) :
    Calls Try.prog 13 #[x.val, .agg #[.int .i64 rm, .int .i64 ri], y.val, .agg #[.int .i64 sm, .int .i64 si]] w fun e w' => ∃ R : Bool, e = .returned (.bool R) ∧ (R = true ↔ MeansP x.d y.d ⟨rm, ri⟩ ⟨sm, si⟩) ∧ Below w.heap.size w w' := by
  obtain ⟨D, hD⟩ : ∃ D : Prop, D = MeansP x.d y.d ⟨rm, ri⟩ ⟨sm, si⟩ := ⟨_, rfl⟩
  rw [← hD]
  obtain ⟨mx, hmx⟩ : ∃ b, mayFace x.d = b := ⟨_, rfl⟩
  obtain ⟨my, hmy⟩ : ∃ b, mayFace y.d = b := ⟨_, rfl⟩
  obtain ⟨lx, hlx⟩ : ∃ b, leadsB x.d ⟨rm, ri⟩ = b := ⟨_, rfl⟩
  obtain ⟨ly, hly⟩ : ∃ b, leadsB y.d ⟨sm, si⟩ = b := ⟨_, rfl⟩
  obtain ⟨xn, ⟨xa1, xc1, xl1⟩, ⟨xa2, xc2, xl2⟩, ⟨xa3, xc3, xl3⟩⟩ := x
  obtain ⟨yn, ⟨ya1, yc1, yl1⟩, ⟨ya2, yc2, yl2⟩, ⟨ya3, yc3, yl3⟩⟩ := y
  refine SC.enter (vs := [.agg #[.string xn, .slice xa1 xl1.length xc1, .slice xa2 xl2.length xc2, .slice xa3 xl3.length xc3], .agg #[.int .i64 rm, .int .i64 ri], .agg #[.string yn, .slice ya1 yl1.length yc1, .slice ya2 yl2.length yc2, .slice ya3 yl3.length yc3], .agg #[.int .i64 sm, .int .i64 si]]) (n := 35) (l := [(0, .agg #[.string xn, .slice xa1 xl1.length xc1, .slice xa2 xl2.length xc2, .slice xa3 xl3.length xc3]), (1, .agg #[.int .i64 rm, .int .i64 ri]), (2, .agg #[.string yn, .slice ya1 yl1.length yc1, .slice ya2 yl2.length yc2, .slice ya3 yl3.length yc3]), (3, .agg #[.int .i64 sm, .int .i64 si])]) Try.func13 (by kernel_rfl) (by kernel_rfl) (by kernel_rfl) (by kernel_rfl) ?_
  have M0 := Mem.start w
  refine SC.seq (by kernel_rfl) ?_
  refine SC.region [0, 1, 2, 3, 4] (by kernel_rfl) (by kernel_rfl) ?_
  refine SL.boxM (d := 4) (t := 26) (v := .agg #[.string xn, .slice xa1 xl1.length xc1, .slice xa2 xl2.length xc2, .slice xa3 xl3.length xc3]) (cs := #[.string xn, .slice xa1 xl1.length xc1, .slice xa2 xl2.length xc2, .slice xa3 xl3.length xc3]) M0 (by kernel_rfl) rfl ?_
  intro g1 w2 hb3 ⟨bg1, lg1⟩ M4
  refine SL.boxM (d := 5) (t := 34) (v := .agg #[.int .i64 rm, .int .i64 ri]) (cs := #[.int .i64 rm, .int .i64 ri]) M4 (by kernel_rfl) rfl ?_
  intro g5 w6 hb7 ⟨bg5, lg5⟩ M8
  refine SL.boxM (d := 6) (t := 26) (v := .agg #[.string yn, .slice ya1 yl1.length yc1, .slice ya2 yl2.length yc2, .slice ya3 yl3.length yc3]) (cs := #[.string yn, .slice ya1 yl1.length yc1, .slice ya2 yl2.length yc2, .slice ya3 yl3.length yc3]) M8 (by kernel_rfl) rfl ?_
  intro g9 w10 hb11 ⟨bg9, lg9⟩ M12
  refine SL.boxM (d := 7) (t := 34) (v := .agg #[.int .i64 sm, .int .i64 si]) (cs := #[.int .i64 sm, .int .i64 si]) M12 (by kernel_rfl) rfl ?_
  intro g13 w14 hb15 ⟨bg13, lg13⟩ M16
  refine SL.run (d := 8) (v := .bool false) (by kernel_rfl) ?_
  refine SL.nil ?_
  refine SC.next ?_
  refine SC.seq (by kernel_rfl) ?_
  refine SC.mix [([0], 1), ([2, 3], 4), ([5, 6, 7, 8], 9), ([10, 11, 12, 13], 14), ([15, 16, 17, 18, 19, 20, 21, 22], 23), ([], 24)] [25, 26] (by kernel_rfl) (by kernel_rfl) (by kernel_rfl) (PanOk.seq PanOk.body) ?_
  intro w17 hb18
  have M19 := M16.call hb18
  refine SM.step ?_
  refine SU.load (d := 9) (t := 26) (b := .pointer (some ⟨g1, 0, none⟩)) (v := .agg #[.string xn, .slice xa1 xl1.length xc1, .slice xa2 xl2.length xc2, .slice xa3 xl3.length xc3]) (by kernel_rfl) (fun y hy => ((M19.call hy).ldBox 3 rfl Try.underlying26 rfl (by kernel_rfl))) ?_
  refine SU.go ?_
  refine SL.call (d := 10) (f := 10) (vs := [.agg #[.string xn, .slice xa1 xl1.length xc1, .slice xa2 xl2.length xc2, .slice xa3 xl3.length xc3]]) (by kernel_rfl) (by kernel_rfl) (by have := rmay_walk (⟨xn, ⟨xa1, xc1, xl1⟩, ⟨xa2, xc2, xl2⟩, ⟨xa3, xc3, xl3⟩⟩ : Fc) w17 (hx.bel M19.bel); rw [hmx] at this; exact this) ?_
  rintro e w20 ⟨rfl, hb21⟩
  refine ⟨_, rfl, ?_⟩
  have M22 := M19.call hb21
  refine SL.nil ?_
  refine SM.back hb21 ?_
  refine SM.step ?_
  refine SU.run (d := 11) (v := .bool mx) (fun y hy => by kernel_rfl) ?_
  cases mx
  · skip
    refine SU.offs [3] (qs := []) rfl (by kernel_rfl) ?_
    refine SU.go ?_
    refine SL.offs [4] (is := []) rfl (by kernel_rfl) ?_
    refine SL.nil ?_
    refine SM.back (Below.refl _ _) ?_
    refine SM.step ?_
    refine SU.pick (d := 14) (v := .bool false) (by kernel_rfl) ?_
    refine SU.run (d := 15) (v := .bool false) (fun y hy => by kernel_rfl) ?_
    refine SU.offs [7, 8] (qs := []) rfl (by kernel_rfl) ?_
    refine SU.go ?_
    refine SL.offs [9] (is := []) rfl (by kernel_rfl) ?_
    refine SL.nil ?_
    refine SM.back (Below.refl _ _) ?_
    refine SM.step ?_
    refine SU.pick (d := 19) (v := .bool false) (by kernel_rfl) ?_
    refine SU.run (d := 20) (v := .bool false) (fun y hy => by kernel_rfl) ?_
    refine SU.offs [12, 13] (qs := []) rfl (by kernel_rfl) ?_
    refine SU.go ?_
    refine SL.offs [14] (is := []) rfl (by kernel_rfl) ?_
    refine SL.nil ?_
    refine SM.back (Below.refl _ _) ?_
    refine SM.step ?_
    refine SU.pick (d := 24) (v := .bool false) (by kernel_rfl) ?_
    refine SU.run (d := 25) (v := .bool false) (fun y hy => by kernel_rfl) ?_
    refine SU.offs [17, 18, 19, 20, 21, 22] (qs := []) rfl (by kernel_rfl) ?_
    refine SU.go ?_
    refine SL.offs [23] (is := []) rfl (by kernel_rfl) ?_
    refine SL.nil ?_
    refine SM.back (Below.refl _ _) ?_
    refine SM.step ?_
    refine SU.go ?_
    refine SL.offs [24] (is := []) rfl (by kernel_rfl) ?_
    refine SL.nil ?_
    refine SM.back (Below.refl _ _) ?_
    refine SM.last ?_
    refine SU.pick (d := 34) (v := .bool false) (by kernel_rfl) ?_
    refine SU.run (d := 8) (v := .bool false) (fun y hy => by kernel_rfl) ?_
    refine SU.done ?_
    refine SC.next ?_
    refine SC.keep (l' := [(8, .bool false)]) [8] (by kernel_rfl) ?_
    refine SC.ret (by kernel_rfl) ?_
    refine SQ.ret1 (t := 8) (v := .bool false) (.inr rfl) (by kernel_rfl) (by kernel_rfl) ?_
    refine ⟨_, rfl, ?_, M22.bel⟩
    rw [hD]
    exact no_iff (fun k => by have := k.1; rw [hmx] at this; cases this)
  · skip
    refine SU.load (d := 12) (t := 26) (b := .pointer (some ⟨g9, 0, none⟩)) (v := .agg #[.string yn, .slice ya1 yl1.length yc1, .slice ya2 yl2.length yc2, .slice ya3 yl3.length yc3]) (by kernel_rfl) (fun y hy => ((M22.call hy).ldBox 1 rfl Try.underlying26 rfl (by kernel_rfl))) ?_
    refine SU.go ?_
    refine SL.call (d := 13) (f := 10) (vs := [.agg #[.string yn, .slice ya1 yl1.length yc1, .slice ya2 yl2.length yc2, .slice ya3 yl3.length yc3]]) (by kernel_rfl) (by kernel_rfl) (by have := rmay_walk (⟨yn, ⟨ya1, yc1, yl1⟩, ⟨ya2, yc2, yl2⟩, ⟨ya3, yc3, yl3⟩⟩ : Fc) w20 (hy.bel M22.bel); rw [hmy] at this; exact this) ?_
    rintro e w23 ⟨rfl, hb24⟩
    refine ⟨_, rfl, ?_⟩
    have M25 := M22.call hb24
    refine SL.nil ?_
    refine SM.back hb24 ?_
    refine SM.step ?_
    refine SU.pick (d := 14) (v := .bool my) (by kernel_rfl) ?_
    refine SU.run (d := 15) (v := .bool my) (fun y hy => by kernel_rfl) ?_
    cases my
    · skip
      refine SU.offs [7, 8] (qs := []) rfl (by kernel_rfl) ?_
      refine SU.go ?_
      refine SL.offs [9] (is := []) rfl (by kernel_rfl) ?_
      refine SL.nil ?_
      refine SM.back (Below.refl _ _) ?_
      refine SM.step ?_
      refine SU.pick (d := 19) (v := .bool false) (by kernel_rfl) ?_
      refine SU.run (d := 20) (v := .bool false) (fun y hy => by kernel_rfl) ?_
      refine SU.offs [12, 13] (qs := []) rfl (by kernel_rfl) ?_
      refine SU.go ?_
      refine SL.offs [14] (is := []) rfl (by kernel_rfl) ?_
      refine SL.nil ?_
      refine SM.back (Below.refl _ _) ?_
      refine SM.step ?_
      refine SU.pick (d := 24) (v := .bool false) (by kernel_rfl) ?_
      refine SU.run (d := 25) (v := .bool false) (fun y hy => by kernel_rfl) ?_
      refine SU.offs [17, 18, 19, 20, 21, 22] (qs := []) rfl (by kernel_rfl) ?_
      refine SU.go ?_
      refine SL.offs [23] (is := []) rfl (by kernel_rfl) ?_
      refine SL.nil ?_
      refine SM.back (Below.refl _ _) ?_
      refine SM.step ?_
      refine SU.go ?_
      refine SL.offs [24] (is := []) rfl (by kernel_rfl) ?_
      refine SL.nil ?_
      refine SM.back (Below.refl _ _) ?_
      refine SM.last ?_
      refine SU.pick (d := 34) (v := .bool false) (by kernel_rfl) ?_
      refine SU.run (d := 8) (v := .bool false) (fun y hy => by kernel_rfl) ?_
      refine SU.done ?_
      refine SC.next ?_
      refine SC.keep (l' := [(8, .bool false)]) [8] (by kernel_rfl) ?_
      refine SC.ret (by kernel_rfl) ?_
      refine SQ.ret1 (t := 8) (v := .bool false) (.inr rfl) (by kernel_rfl) (by kernel_rfl) ?_
      refine ⟨_, rfl, ?_, M25.bel⟩
      rw [hD]
      exact no_iff (fun k => by have := k.2.1; rw [hmy] at this; cases this)
    · skip
      refine SU.load (d := 16) (t := 26) (b := .pointer (some ⟨g1, 0, none⟩)) (v := .agg #[.string xn, .slice xa1 xl1.length xc1, .slice xa2 xl2.length xc2, .slice xa3 xl3.length xc3]) (by kernel_rfl) (fun y hy => ((M25.call hy).ldBox 3 rfl Try.underlying26 rfl (by kernel_rfl))) ?_
      refine SU.load (d := 17) (t := 34) (b := .pointer (some ⟨g5, 0, none⟩)) (v := .agg #[.int .i64 rm, .int .i64 ri]) (by kernel_rfl) (fun y hy => ((M25.call hy).ldBox 2 rfl Try.underlying34 rfl (by kernel_rfl))) ?_
      refine SU.go ?_
      refine SL.call (d := 18) (f := 30) (vs := [.agg #[.string xn, .slice xa1 xl1.length xc1, .slice xa2 xl2.length xc2, .slice xa3 xl3.length xc3], .agg #[.int .i64 rm, .int .i64 ri]]) (by kernel_rfl) (by kernel_rfl) (by have := rleads_walk (⟨xn, ⟨xa1, xc1, xl1⟩, ⟨xa2, xc2, xl2⟩, ⟨xa3, xc3, xl3⟩⟩ : Fc) rm ri w23 hr; rw [hlx] at this; exact this) ?_
      rintro e w26 ⟨rfl, hb27⟩
      refine ⟨_, rfl, ?_⟩
      have M28 := M25.call hb27
      refine SL.nil ?_
      refine SM.back hb27 ?_
      refine SM.step ?_
      refine SU.pick (d := 19) (v := .bool lx) (by kernel_rfl) ?_
      refine SU.run (d := 20) (v := .bool lx) (fun y hy => by kernel_rfl) ?_
      cases lx
      · skip
        refine SU.offs [12, 13] (qs := []) rfl (by kernel_rfl) ?_
        refine SU.go ?_
        refine SL.offs [14] (is := []) rfl (by kernel_rfl) ?_
        refine SL.nil ?_
        refine SM.back (Below.refl _ _) ?_
        refine SM.step ?_
        refine SU.pick (d := 24) (v := .bool false) (by kernel_rfl) ?_
        refine SU.run (d := 25) (v := .bool false) (fun y hy => by kernel_rfl) ?_
        refine SU.offs [17, 18, 19, 20, 21, 22] (qs := []) rfl (by kernel_rfl) ?_
        refine SU.go ?_
        refine SL.offs [23] (is := []) rfl (by kernel_rfl) ?_
        refine SL.nil ?_
        refine SM.back (Below.refl _ _) ?_
        refine SM.step ?_
        refine SU.go ?_
        refine SL.offs [24] (is := []) rfl (by kernel_rfl) ?_
        refine SL.nil ?_
        refine SM.back (Below.refl _ _) ?_
        refine SM.last ?_
        refine SU.pick (d := 34) (v := .bool false) (by kernel_rfl) ?_
        refine SU.run (d := 8) (v := .bool false) (fun y hy => by kernel_rfl) ?_
        refine SU.done ?_
        refine SC.next ?_
        refine SC.keep (l' := [(8, .bool false)]) [8] (by kernel_rfl) ?_
        refine SC.ret (by kernel_rfl) ?_
        refine SQ.ret1 (t := 8) (v := .bool false) (.inr rfl) (by kernel_rfl) (by kernel_rfl) ?_
        refine ⟨_, rfl, ?_, M28.bel⟩
        rw [hD]
        exact no_iff (fun k => by have := k.2.2.1; rw [hlx] at this; cases this)
      · skip
        refine SU.load (d := 21) (t := 26) (b := .pointer (some ⟨g9, 0, none⟩)) (v := .agg #[.string yn, .slice ya1 yl1.length yc1, .slice ya2 yl2.length yc2, .slice ya3 yl3.length yc3]) (by kernel_rfl) (fun y hy => ((M28.call hy).ldBox 1 rfl Try.underlying26 rfl (by kernel_rfl))) ?_
        refine SU.load (d := 22) (t := 34) (b := .pointer (some ⟨g13, 0, none⟩)) (v := .agg #[.int .i64 sm, .int .i64 si]) (by kernel_rfl) (fun y hy => ((M28.call hy).ldBox 0 rfl Try.underlying34 rfl (by kernel_rfl))) ?_
        refine SU.go ?_
        refine SL.call (d := 23) (f := 30) (vs := [.agg #[.string yn, .slice ya1 yl1.length yc1, .slice ya2 yl2.length yc2, .slice ya3 yl3.length yc3], .agg #[.int .i64 sm, .int .i64 si]]) (by kernel_rfl) (by kernel_rfl) (by have := rleads_walk (⟨yn, ⟨ya1, yc1, yl1⟩, ⟨ya2, yc2, yl2⟩, ⟨ya3, yc3, yl3⟩⟩ : Fc) sm si w26 hs; rw [hly] at this; exact this) ?_
        rintro e w29 ⟨rfl, hb30⟩
        refine ⟨_, rfl, ?_⟩
        have M31 := M28.call hb30
        refine SL.nil ?_
        refine SM.back hb30 ?_
        refine SM.step ?_
        refine SU.pick (d := 24) (v := .bool ly) (by kernel_rfl) ?_
        refine SU.run (d := 25) (v := .bool ly) (fun y hy => by kernel_rfl) ?_
        cases ly
        · skip
          refine SU.offs [17, 18, 19, 20, 21, 22] (qs := []) rfl (by kernel_rfl) ?_
          refine SU.go ?_
          refine SL.offs [23] (is := []) rfl (by kernel_rfl) ?_
          refine SL.nil ?_
          refine SM.back (Below.refl _ _) ?_
          refine SM.step ?_
          refine SU.go ?_
          refine SL.offs [24] (is := []) rfl (by kernel_rfl) ?_
          refine SL.nil ?_
          refine SM.back (Below.refl _ _) ?_
          refine SM.last ?_
          refine SU.pick (d := 34) (v := .bool false) (by kernel_rfl) ?_
          refine SU.run (d := 8) (v := .bool false) (fun y hy => by kernel_rfl) ?_
          refine SU.done ?_
          refine SC.next ?_
          refine SC.keep (l' := [(8, .bool false)]) [8] (by kernel_rfl) ?_
          refine SC.ret (by kernel_rfl) ?_
          refine SQ.ret1 (t := 8) (v := .bool false) (.inr rfl) (by kernel_rfl) (by kernel_rfl) ?_
          refine ⟨_, rfl, ?_, M31.bel⟩
          rw [hD]
          exact no_iff (fun k => by have := k.2.2.2.1; rw [hly] at this; cases this)
        · skip
          refine SU.load (d := 26) (t := 26) (b := .pointer (some ⟨g1, 0, none⟩)) (v := .agg #[.string xn, .slice xa1 xl1.length xc1, .slice xa2 xl2.length xc2, .slice xa3 xl3.length xc3]) (by kernel_rfl) (fun y hy => ((M31.call hy).ldBox 3 rfl Try.underlying26 rfl (by kernel_rfl))) ?_
          refine SU.load (d := 27) (t := 34) (b := .pointer (some ⟨g5, 0, none⟩)) (v := .agg #[.int .i64 rm, .int .i64 ri]) (by kernel_rfl) (fun y hy => ((M31.call hy).ldBox 2 rfl Try.underlying34 rfl (by kernel_rfl))) ?_
          refine SU.load (d := 28) (t := 26) (b := .pointer (some ⟨g9, 0, none⟩)) (v := .agg #[.string yn, .slice ya1 yl1.length yc1, .slice ya2 yl2.length yc2, .slice ya3 yl3.length yc3]) (by kernel_rfl) (fun y hy => ((M31.call hy).ldBox 1 rfl Try.underlying26 rfl (by kernel_rfl))) ?_
          refine SU.load (d := 29) (t := 34) (b := .pointer (some ⟨g13, 0, none⟩)) (v := .agg #[.int .i64 sm, .int .i64 si]) (by kernel_rfl) (fun y hy => ((M31.call hy).ldBox 0 rfl Try.underlying34 rfl (by kernel_rfl))) ?_
          refine SU.load (d := 30) (t := 26) (b := .pointer (some ⟨g1, 0, none⟩)) (v := .agg #[.string xn, .slice xa1 xl1.length xc1, .slice xa2 xl2.length xc2, .slice xa3 xl3.length xc3]) (by kernel_rfl) (fun y hy => ((M31.call hy).ldBox 3 rfl Try.underlying26 rfl (by kernel_rfl))) ?_
          refine SU.load (d := 31) (t := 26) (b := .pointer (some ⟨g9, 0, none⟩)) (v := .agg #[.string yn, .slice ya1 yl1.length yc1, .slice ya2 yl2.length yc2, .slice ya3 yl3.length yc3]) (by kernel_rfl) (fun y hy => ((M31.call hy).ldBox 1 rfl Try.underlying26 rfl (by kernel_rfl))) ?_
          refine SU.go ?_
          refine SL.call (d := 32) (f := 28) (vs := [.agg #[.string xn, .slice xa1 xl1.length xc1, .slice xa2 xl2.length xc2, .slice xa3 xl3.length xc3], .agg #[.string yn, .slice ya1 yl1.length yc1, .slice ya2 yl2.length yc2, .slice ya3 yl3.length yc3]]) (by kernel_rfl) (by kernel_rfl) (table_walk (⟨xn, ⟨xa1, xc1, xl1⟩, ⟨xa2, xc2, xl2⟩, ⟨xa3, xc3, xl3⟩⟩ : Fc) (⟨yn, ⟨ya1, yc1, yl1⟩, ⟨ya2, yc2, yl2⟩, ⟨ya3, yc3, yl3⟩⟩ : Fc) w29 (hx.bel M31.bel) (hy.bel M31.bel) (may_ftin hmx) (may_ftin hmy) (by have := may_types hmx; rw [types_len] at this; exact Nat.le_trans this (by decide)) (by have := may_types hmy; rw [types_len] at this; exact Nat.le_trans this (by decide))) ?_
          rintro e w32 ⟨ta, tc, T, rfl, htb, hT, hb33⟩
          refine ⟨_, rfl, ?_⟩
          have M34 := M31.call hb33
          refine SL.nil ?_
          refine SM.back hb33 ?_
          refine SM.step ?_
          refine SU.go ?_
          refine SL.call (d := 33) (f := 29) (vs := [.agg #[.string xn, .slice xa1 xl1.length xc1, .slice xa2 xl2.length xc2, .slice xa3 xl3.length xc3], .agg #[.int .i64 rm, .int .i64 ri], .agg #[.string yn, .slice ya1 yl1.length yc1, .slice ya2 yl2.length yc2, .slice ya3 yl3.length yc3], .agg #[.int .i64 sm, .int .i64 si], .slice ta xl2.length tc]) (by kernel_rfl) (by kernel_rfl) (once_walk (⟨xn, ⟨xa1, xc1, xl1⟩, ⟨xa2, xc2, xl2⟩, ⟨xa3, xc3, xl3⟩⟩ : Fc) (⟨yn, ⟨ya1, yc1, yl1⟩, ⟨ya2, yc2, yl2⟩, ⟨ya3, yc3, yl3⟩⟩ : Fc) rm ri sm si ta xl2.length tc yl2.length T w32 (hx.bel M34.bel) (hy.bel M34.bel) (rf_in (x := (⟨xn, ⟨xa1, xc1, xl1⟩, ⟨xa2, xc2, xl2⟩, ⟨xa3, xc3, xl3⟩⟩ : Fc)) hr hlx) (rf_in (x := (⟨yn, ⟨ya1, yc1, yl1⟩, ⟨ya2, yc2, yl2⟩, ⟨ya3, yc3, yl3⟩⟩ : Fc)) hs hly) htb) ?_
          rintro e w35 ⟨R38, rfl, hmean, hb36⟩
          rw [once_eq hT] at hmean
          refine ⟨_, rfl, ?_⟩
          have M37 := M34.call hb36
          refine SL.nil ?_
          refine SM.back hb36 ?_
          refine SM.last ?_
          refine SU.pick (d := 34) (v := .bool R38) (by kernel_rfl) ?_
          refine SU.run (d := 8) (v := .bool R38) (fun y hy => by kernel_rfl) ?_
          refine SU.done ?_
          refine SC.next ?_
          refine SC.keep (l' := [(8, .bool R38)]) [8] (by kernel_rfl) ?_
          refine SC.ret (by kernel_rfl) ?_
          refine SQ.ret1 (t := 8) (v := .bool R38) (.inr rfl) (by kernel_rfl) (by kernel_rfl) ?_
          refine ⟨_, rfl, ?_, M37.bel⟩
          rw [hD]
          exact ⟨fun q => ⟨hmx, hmy, hlx, hly, hmean.1 q⟩, fun q => hmean.2 q.2.2.2.2⟩
end Go.Proofs.Ytgcjdkgeiopllaa
