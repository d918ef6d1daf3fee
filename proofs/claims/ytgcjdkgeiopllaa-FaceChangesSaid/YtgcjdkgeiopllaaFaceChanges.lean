/- Walk: the law FaceChanges. Printed by bin/gen_facechg.py. -/
import Derived.Test.YtgcjdkgeiopllaaFrRows
import Derived.Test.YtgcjdkgeiopllaaFaceChg
import Derived.Test.YtgcjdkgeiopllaaFaceFew
import Derived.Test.YtgcjdkgeiopllaaFaceKnown20
import Derived.Test.YtgcjdkgeiopllaaFaceRMay
import Derived.Test.YtgcjdkgeiopllaaFaceOpen
namespace Go.Proofs.Ytgcjdkgeiopllaa
set_option linter.unusedVariables false
set_option linter.unusedSimpArgs false
open Go.RowKit

theorem mf_split8 {f : FD} (h : mayFace f = true) : f.objs.length ≤ 900 := by
  unfold mayFace at h
  simp only [Bool.and_eq_true, decide_eq_true_eq] at h
  exact h.1.1.2.2
/-- the face with another row of objects. -/
def Fc.with (f : Fc) (g c : Nat) (l : List FO) : Fc := ⟨f.name, f.imps, f.types, ⟨some ⟨g, 0, none⟩, c, l⟩⟩
theorem with_d (f : Fc) (k g c : Nat) (o : FO) : (f.with g c (f.objs.l.set k o)).d = withO f.d k o.d := by
  unfold Fc.d withO Fc.with
  simp only [List.map_set]
theorem with_rd {f : Fc} {w W : World} {g c : Nat} {k : Nat} {o : FO} (hx : f.Rd w) (hb : Below w.heap.size w W) (hr : RdC W (some ⟨g, 0, none⟩) f.objs.l.length c ((f.objs.l.set k o).flatMap FO.cells)) (ho : foD.ok w o) : (f.with g c (f.objs.l.set k o)).Rd W :=
  ⟨hx.name, hx.imps.bel hb, hx.types.bel hb, ⟨by show RdC W _ (f.objs.l.set k o).length c _; rw [List.length_set]; exact hr, fun y hy => by
    rcases List.mem_or_eq_of_mem_set hy with hy | rfl
    · exact foD.below (hx.objs.all y hy) hb (Nat.le_refl _)
    · exact foD.below ho hb (Nat.le_refl _)⟩⟩
theorem with_val (f : Fc) (k g c : Nat) (o : FO) : (f.with g c (f.objs.l.set k o)).val = .agg #[.string f.name, f.imps.val, f.types.val, .slice (some ⟨g, 0, none⟩) f.objs.l.length c] := by
  show Value.agg #[.string f.name, f.imps.val, f.types.val, .slice (some ⟨g, 0, none⟩) (f.objs.l.set k o).length c] = _
  rw [List.length_set]
theorem rmay_w {f : Fc} {w W : World} {g c k : Nat} {o : FO} (hx : f.Rd w) (hb : Below w.heap.size w W) (hr : RdC W (some ⟨g, 0, none⟩) f.objs.l.length c ((f.objs.l.set k o).flatMap FO.cells)) (ho : foD.ok w o) {m : Bool} (hm : mayFace (withO f.d k o.d) = m) :
    Calls Try.prog 10 #[.agg #[.string f.name, f.imps.val, f.types.val, .slice (some ⟨g, 0, none⟩) f.objs.l.length c]] W fun e w' => e = .returned (.bool m) ∧ Below W.heap.size W w' := by
  have := rmay_walk _ W (with_rd hx hb hr ho)
  rw [with_val, with_d, hm] at this
  exact this
theorem shows_w {f : Fc} {w W : World} {g c k : Nat} {o : FO} (hx : f.Rd w) (hb : Below w.heap.size w W) (hr : RdC W (some ⟨g, 0, none⟩) f.objs.l.length c ((f.objs.l.set k o).flatMap FO.cells)) (ho : foD.ok w o) {m : Bool} (hm : showsB f.d (withO f.d k o.d) = m) :
    Calls Try.prog 9 #[f.val, .agg #[.string f.name, f.imps.val, f.types.val, .slice (some ⟨g, 0, none⟩) f.objs.l.length c]] W fun e w' => e = .returned (.bool m) ∧ Below W.heap.size W w' := by
  have := shows_walk f _ W (hx.bel hb) (with_rd hx hb hr ho)
  rw [with_val, with_d, hm] at this
  exact this

theorem faceChanges_walk (x : Fc) (at' vv : Int) (w : World) (hx : x.Rd w) (ha : IntKind.i64.min ≤ at' ∧ at' ≤ IntKind.i64.max) (hv : IntKind.u32.min ≤ vv ∧ vv ≤ IntKind.u32.max) :
    Calls Try.prog 4 #[x.val, .int .i64 at', .int .u32 vv] w fun e w' => e = .returned (.bool true) ∧ Below w.heap.size w w' := by
  obtain ⟨ha1, ha2⟩ := bd_i64 ha
  obtain ⟨hv1, hv2⟩ := bd_u32 hv
  obtain ⟨fw, hfw⟩ : ∃ b, fewF x.d x.d = b := ⟨_, rfl⟩
  obtain ⟨mx, hmx⟩ : ∃ b, mayFace x.d = b := ⟨_, rfl⟩
  have i3 := hx.objs.len
  obtain ⟨xn, ⟨xa1, xc1, xl1⟩, ⟨xa2, xc2, xl2⟩, ⟨xa3, xc3, xl3⟩⟩ := x
  dsimp only at i3
  refine SC.enter (vs := [.agg #[.string xn, .slice xa1 xl1.length xc1, .slice xa2 xl2.length xc2, .slice xa3 xl3.length xc3], .int .i64 at', .int .u32 vv]) (n := 89) (l := [(0, .agg #[.string xn, .slice xa1 xl1.length xc1, .slice xa2 xl2.length xc2, .slice xa3 xl3.length xc3]), (1, .int .i64 at'), (2, .int .u32 vv)]) Try.func4 (by kernel_rfl) (by kernel_rfl) (by kernel_rfl) (by kernel_rfl) ?_
  have M0 := Mem.start w
  refine SC.seq (by kernel_rfl) ?_
  refine SC.region [0, 1] (by kernel_rfl) (by kernel_rfl) ?_
  refine SL.boxM (d := 3) (t := 26) (v := .agg #[.string xn, .slice xa1 xl1.length xc1, .slice xa2 xl2.length xc2, .slice xa3 xl3.length xc3]) (cs := #[.string xn, .slice xa1 xl1.length xc1, .slice xa2 xl2.length xc2, .slice xa3 xl3.length xc3]) M0 (by kernel_rfl) rfl ?_
  intro g1 w2 hb3 ⟨bg1, lg1⟩ M4
  refine SL.run (d := 6) (v := .bool false) (by kernel_rfl) ?_
  refine SL.nil ?_
  refine SC.next ?_
  refine SC.seq (by kernel_rfl) ?_
  refine SC.seq (by kernel_rfl) ?_
  refine SC.region [0, 1, 2, 3, 4, 5, 6, 7, 8, 9, 10, 11, 12, 13, 14, 15, 16, 17, 18, 19] (by kernel_rfl) (by kernel_rfl) ?_
  refine SL.load (d := 12) (t := 26) (a := .pointer (some ⟨g1, 0, none⟩)) (v := .agg #[.string xn, .slice xa1 xl1.length xc1, .slice xa2 xl2.length xc2, .slice xa3 xl3.length xc3]) (by kernel_rfl) (M4.ldBox 0 rfl Try.underlying26 rfl (by kernel_rfl)) ?_
  refine SL.load (d := 13) (t := 26) (a := .pointer (some ⟨g1, 0, none⟩)) (v := .agg #[.string xn, .slice xa1 xl1.length xc1, .slice xa2 xl2.length xc2, .slice xa3 xl3.length xc3]) (by kernel_rfl) (M4.ldBox 0 rfl Try.underlying26 rfl (by kernel_rfl)) ?_
  refine SL.call (d := 14) (f := 7) (vs := [.agg #[.string xn, .slice xa1 xl1.length xc1, .slice xa2 xl2.length xc2, .slice xa3 xl3.length xc3], .agg #[.string xn, .slice xa1 xl1.length xc1, .slice xa2 xl2.length xc2, .slice xa3 xl3.length xc3]]) (by kernel_rfl) (by kernel_rfl) (by have := few_walk (⟨xn, ⟨xa1, xc1, xl1⟩, ⟨xa2, xc2, xl2⟩, ⟨xa3, xc3, xl3⟩⟩ : Fc) (⟨xn, ⟨xa1, xc1, xl1⟩, ⟨xa2, xc2, xl2⟩, ⟨xa3, xc3, xl3⟩⟩ : Fc) w2 (hx.bel M4.bel) (hx.bel M4.bel); rw [hfw] at this; exact this) ?_
  rintro e w5 ⟨rfl, hb6⟩
  refine ⟨_, rfl, ?_⟩
  have M7 := M4.call hb6
  cases fw
  · skip
    refine SL.run (d := 15) (v := .bool true) (by kernel_rfl) ?_
    refine SL.run (d := 16) (v := .bool true) (by kernel_rfl) ?_
    refine SL.offs [5, 6, 7] (is := [8, 9, 10, 11, 12, 13, 14, 15, 16, 17, 18, 19]) rfl (by kernel_rfl) ?_
    refine SL.pick (d := 20) (v := .bool true) (by kernel_rfl) ?_
    refine SL.run (d := 21) (v := .bool true) (by kernel_rfl) ?_
    refine SL.offs [10, 11] (is := [12, 13, 14, 15, 16, 17, 18, 19]) rfl (by kernel_rfl) ?_
    refine SL.pick (d := 24) (v := .bool true) (by kernel_rfl) ?_
    refine SL.run (d := 25) (v := .bool true) (by kernel_rfl) ?_
    refine SL.offs [14, 15, 16, 17, 18] (is := [19]) rfl (by kernel_rfl) ?_
    refine SL.pick (d := 31) (v := .bool true) (by kernel_rfl) ?_
    refine SL.nil ?_
    refine SC.next ?_
    refine SC.yes (by kernel_rfl) ?_
    refine SC.seq (by kernel_rfl) ?_
    refine SC.region [0, 1] (by kernel_rfl) (by kernel_rfl) ?_
    refine SL.call (d := 32) (f := 8) (vs := []) (by kernel_rfl) (by kernel_rfl) (known20_walk w5) ?_
    rintro e w8 ⟨rfl, hb9⟩
    refine ⟨_, rfl, ?_⟩
    have M10 := M7.call hb9
    refine SL.run (d := 6) (v := .bool true) (by kernel_rfl) ?_
    refine SL.nil ?_
    refine SC.next ?_
    refine SC.ret (by kernel_rfl) ?_
    refine SQ.seqExit (by nofun) ?_
    refine SQ.ret1 (t := 6) (v := .bool true) (.inr rfl) (by kernel_rfl) (by kernel_rfl) ?_
    exact ⟨rfl, M10.bel⟩
  · skip
    refine SL.run (d := 15) (v := .bool false) (by kernel_rfl) ?_
    refine SL.run (d := 16) (v := .bool false) (by kernel_rfl) ?_
    refine SL.load (d := 17) (t := 26) (a := .pointer (some ⟨g1, 0, none⟩)) (v := .agg #[.string xn, .slice xa1 xl1.length xc1, .slice xa2 xl2.length xc2, .slice xa3 xl3.length xc3]) (by kernel_rfl) (M7.ldBox 0 rfl Try.underlying26 rfl (by kernel_rfl)) ?_
    refine SL.call (d := 18) (f := 10) (vs := [.agg #[.string xn, .slice xa1 xl1.length xc1, .slice xa2 xl2.length xc2, .slice xa3 xl3.length xc3]]) (by kernel_rfl) (by kernel_rfl) (by have := rmay_walk (⟨xn, ⟨xa1, xc1, xl1⟩, ⟨xa2, xc2, xl2⟩, ⟨xa3, xc3, xl3⟩⟩ : Fc) w5 (hx.bel M7.bel); rw [hmx] at this; exact this) ?_
    rintro e w11 ⟨rfl, hb12⟩
    refine ⟨_, rfl, ?_⟩
    have M13 := M7.call hb12
    cases mx
    · skip
      refine SL.run (d := 19) (v := .bool true) (by kernel_rfl) ?_
      refine SL.pick (d := 20) (v := .bool true) (by kernel_rfl) ?_
      refine SL.run (d := 21) (v := .bool true) (by kernel_rfl) ?_
      refine SL.offs [10, 11] (is := [12, 13, 14, 15, 16, 17, 18, 19]) rfl (by kernel_rfl) ?_
      refine SL.pick (d := 24) (v := .bool true) (by kernel_rfl) ?_
      refine SL.run (d := 25) (v := .bool true) (by kernel_rfl) ?_
      refine SL.offs [14, 15, 16, 17, 18] (is := [19]) rfl (by kernel_rfl) ?_
      refine SL.pick (d := 31) (v := .bool true) (by kernel_rfl) ?_
      refine SL.nil ?_
      refine SC.next ?_
      refine SC.yes (by kernel_rfl) ?_
      refine SC.seq (by kernel_rfl) ?_
      refine SC.region [0, 1] (by kernel_rfl) (by kernel_rfl) ?_
      refine SL.call (d := 32) (f := 8) (vs := []) (by kernel_rfl) (by kernel_rfl) (known20_walk w11) ?_
      rintro e w14 ⟨rfl, hb15⟩
      refine ⟨_, rfl, ?_⟩
      have M16 := M13.call hb15
      refine SL.run (d := 6) (v := .bool true) (by kernel_rfl) ?_
      refine SL.nil ?_
      refine SC.next ?_
      refine SC.keep (l' := [(1, .int .i64 at'), (2, .int .u32 vv), (3, .pointer (some ⟨g1, 0, none⟩)), (6, .bool true)]) [1, 2, 3, 6] (by kernel_rfl) ?_
      refine SC.ret (by kernel_rfl) ?_
      refine SQ.seqExit (by nofun) ?_
      refine SQ.ret1 (t := 6) (v := .bool true) (.inr rfl) (by kernel_rfl) (by kernel_rfl) ?_
      exact ⟨rfl, M16.bel⟩
    · skip
      refine SL.run (d := 19) (v := .bool false) (by kernel_rfl) ?_
      refine SL.pick (d := 20) (v := .bool false) (by kernel_rfl) ?_
      refine SL.run (d := 21) (v := .bool false) (by kernel_rfl) ?_
      refine SL.run (d := 22) (v := .int .i64 at') (by kernel_rfl) ?_
      rcases Bool.eq_false_or_eq_true (decide (at' < (0 : Int))) with h17 | h17
      · skip
        have ph17 : at' < (0 : Int) := of_decide_eq_true h17
        refine SL.bool (d := 23) (x := (decide (at' < (0 : Int)))) (y := true) h17 (by kernel_rfl) ?_
        refine SL.pick (d := 24) (v := .bool true) (by kernel_rfl) ?_
        refine SL.run (d := 25) (v := .bool true) (by kernel_rfl) ?_
        refine SL.offs [14, 15, 16, 17, 18] (is := [19]) rfl (by kernel_rfl) ?_
        refine SL.pick (d := 31) (v := .bool true) (by kernel_rfl) ?_
        refine SL.nil ?_
        refine SC.next ?_
        refine SC.keep (l' := [(1, .int .i64 at'), (2, .int .u32 vv), (3, .pointer (some ⟨g1, 0, none⟩)), (6, .bool false), (31, .bool true)]) [1, 2, 3, 6, 31] (by kernel_rfl) ?_
        refine SC.yes (by kernel_rfl) ?_
        refine SC.seq (by kernel_rfl) ?_
        refine SC.region [0, 1] (by kernel_rfl) (by kernel_rfl) ?_
        refine SL.call (d := 32) (f := 8) (vs := []) (by kernel_rfl) (by kernel_rfl) (known20_walk w11) ?_
        rintro e w18 ⟨rfl, hb19⟩
        refine ⟨_, rfl, ?_⟩
        have M20 := M13.call hb19
        refine SL.run (d := 6) (v := .bool true) (by kernel_rfl) ?_
        refine SL.nil ?_
        refine SC.next ?_
        refine SC.ret (by kernel_rfl) ?_
        refine SQ.seqExit (by nofun) ?_
        refine SQ.ret1 (t := 6) (v := .bool true) (.inr rfl) (by kernel_rfl) (by kernel_rfl) ?_
        exact ⟨rfl, M20.bel⟩
      · skip
        have ph17 : ¬ (at' < (0 : Int)) := of_decide_eq_false h17
        refine SL.bool (d := 23) (x := (decide (at' < (0 : Int)))) (y := false) h17 (by kernel_rfl) ?_
        refine SL.pick (d := 24) (v := .bool false) (by kernel_rfl) ?_
        refine SL.run (d := 25) (v := .bool false) (by kernel_rfl) ?_
        refine SL.run (d := 26) (v := .int .i64 at') (by kernel_rfl) ?_
        refine SL.run (d := 27) (v := .pointer (some ⟨g1, 3, none⟩)) (by kernel_rfl) ?_
        refine SL.load (d := 28) (t := 24) (a := .pointer (some ⟨g1, 3, none⟩)) (v := .slice xa3 xl3.length xc3) (by kernel_rfl) (M13.ldCell 0 rfl (j := 3) (v := .slice xa3 xl3.length xc3) rfl Try.underlying24 rfl) ?_
        refine SL.builtin (d := 29) (b := .len) (ts := [24]) (ty := 3) (vs := [.slice xa3 xl3.length xc3]) (v := .int .i64 ((xl3.length : Nat) : Int)) (by kernel_rfl) (fun k => run_len Try.underlying24 rfl k) ?_
        rcases Bool.eq_false_or_eq_true (decide (((xl3.length : Nat) : Int) ≤ at')) with h21 | h21
        · skip
          have ph21 : ((xl3.length : Nat) : Int) ≤ at' := of_decide_eq_true h21
          refine SL.bool (d := 30) (x := (decide (((xl3.length : Nat) : Int) ≤ at'))) (y := true) h21 (by kernel_rfl) ?_
          refine SL.pick (d := 31) (v := .bool true) (by kernel_rfl) ?_
          refine SL.nil ?_
          refine SC.next ?_
          refine SC.keep (l' := [(1, .int .i64 at'), (2, .int .u32 vv), (3, .pointer (some ⟨g1, 0, none⟩)), (6, .bool false), (31, .bool true)]) [1, 2, 3, 6, 31] (by kernel_rfl) ?_
          refine SC.yes (by kernel_rfl) ?_
          refine SC.seq (by kernel_rfl) ?_
          refine SC.region [0, 1] (by kernel_rfl) (by kernel_rfl) ?_
          refine SL.call (d := 32) (f := 8) (vs := []) (by kernel_rfl) (by kernel_rfl) (known20_walk w11) ?_
          rintro e w22 ⟨rfl, hb23⟩
          refine ⟨_, rfl, ?_⟩
          have M24 := M13.call hb23
          refine SL.run (d := 6) (v := .bool true) (by kernel_rfl) ?_
          refine SL.nil ?_
          refine SC.next ?_
          refine SC.ret (by kernel_rfl) ?_
          refine SQ.seqExit (by nofun) ?_
          refine SQ.ret1 (t := 6) (v := .bool true) (.inr rfl) (by kernel_rfl) (by kernel_rfl) ?_
          exact ⟨rfl, M24.bel⟩
        · skip
          have ph21 : ¬ (((xl3.length : Nat) : Int) ≤ at') := of_decide_eq_false h21
          obtain ⟨k, rfl⟩ : ∃ k : Nat, at' = k := ⟨at'.toNat, by omega⟩
          have hk : k < xl3.length := by omega
          obtain ⟨⟨cl, on, ⟨bm, bi⟩, va, ⟨pa, pc, pl⟩⟩, hko⟩ := get_lt hk
          have hme := List.mem_of_getElem? hko
          have hok := hx.objs.all _ hme
          have hle := mf_split8 hmx
          rw [show (⟨xn, ⟨xa1, xc1, xl1⟩, ⟨xa2, xc2, xl2⟩, ⟨xa3, xc3, xl3⟩⟩ : Fc).d.objs = xl3.map FO.d from rfl, List.length_map] at hle
          have hpm : ∀ q ∈ xl3, q.params.l.length ≤ 1000000 := fun q hq => may_objs_params hmx (show q.d ∈ xl3.map FO.d from List.mem_map_of_mem hq)
          have ho1 : foD.ok w ⟨cl, on, ⟨bm, bi⟩, vv, ⟨pa, pc, pl⟩⟩ := by obtain ⟨a1, a2, a3, a4, a5⟩ := hok; exact ⟨a1, a2, a3, ⟨hv1, hv2⟩, a5⟩
          have ho2 : foD.ok w ⟨cl, ⟨#[79, 116, 104, 101, 114, 119, 105, 115, 101]⟩, ⟨bm, bi⟩, va, ⟨pa, pc, pl⟩⟩ := by obtain ⟨a1, a2, a3, a4, a5⟩ := hok; exact ⟨a1, (show (9 : Nat) ≤ maxLen by unfold maxLen; omega), a3, a4, a5⟩
          have hcv : mayFace (withO (⟨xn, ⟨xa1, xc1, xl1⟩, ⟨xa2, xc2, xl2⟩, ⟨xa3, xc3, xl3⟩⟩ : Fc).d k (FO.d ⟨cl, on, ⟨bm, bi⟩, vv, ⟨pa, pc, pl⟩⟩)) = true → showsB (⟨xn, ⟨xa1, xc1, xl1⟩, ⟨xa2, xc2, xl2⟩, ⟨xa3, xc3, xl3⟩⟩ : Fc).d (withO (⟨xn, ⟨xa1, xc1, xl1⟩, ⟨xa2, xc2, xl2⟩, ⟨xa3, xc3, xl3⟩⟩ : Fc).d k (FO.d ⟨cl, on, ⟨bm, bi⟩, vv, ⟨pa, pc, pl⟩⟩)) = !(va != vv) := fun h => chg_value (f := (⟨xn, ⟨xa1, xc1, xl1⟩, ⟨xa2, xc2, xl2⟩, ⟨xa3, xc3, xl3⟩⟩ : Fc).d) (o := FO.d ⟨cl, on, ⟨bm, bi⟩, va, ⟨pa, pc, pl⟩⟩) (by show (xl3.map FO.d)[k]? = _; rw [List.getElem?_map, hko]; rfl) hmx vv h
          have hcn : (∀ q ∈ xl3, q.name ≠ ⟨#[79, 116, 104, 101, 114, 119, 105, 115, 101]⟩) → showsB (⟨xn, ⟨xa1, xc1, xl1⟩, ⟨xa2, xc2, xl2⟩, ⟨xa3, xc3, xl3⟩⟩ : Fc).d (withO (⟨xn, ⟨xa1, xc1, xl1⟩, ⟨xa2, xc2, xl2⟩, ⟨xa3, xc3, xl3⟩⟩ : Fc).d k (FO.d ⟨cl, ⟨#[79, 116, 104, 101, 114, 119, 105, 115, 101]⟩, ⟨bm, bi⟩, va, ⟨pa, pc, pl⟩⟩)) = false := fun h => chg_name (f := (⟨xn, ⟨xa1, xc1, xl1⟩, ⟨xa2, xc2, xl2⟩, ⟨xa3, xc3, xl3⟩⟩ : Fc).d) (o := FO.d ⟨cl, on, ⟨bm, bi⟩, va, ⟨pa, pc, pl⟩⟩) (by show (xl3.map FO.d)[k]? = _; rw [List.getElem?_map, hko]; rfl) (fun q hq => by obtain ⟨q', hq', rfl⟩ := List.mem_map.1 (show q ∈ xl3.map FO.d from hq); exact h q' hq')
          have hel : ∀ (q : Nat) (v : Value), ([.int .i64 cl, .string on, .int .i64 bm, .int .i64 bi, .int .u32 va, .slice pa pl.length pc] : List Value)[q]? = some v → (xl3.flatMap FO.cells)[k * 6 + q]? = some v := fun q v hv => flat_get foD xl3 k _ hko q v hv
          rcases Bool.eq_false_or_eq_true (decide (((xl3.length : Nat) : Int) ≤ ((k : Nat) : Int))) with h25 | h25
          · skip
            have ph25 : ((xl3.length : Nat) : Int) ≤ ((k : Nat) : Int) := of_decide_eq_true h25
            refine SL.bool (d := 30) (x := (decide (((xl3.length : Nat) : Int) ≤ ((k : Nat) : Int)))) (y := true) h25 (by kernel_rfl) ?_
            refine SL.pick (d := 31) (v := .bool true) (by kernel_rfl) ?_
            refine SL.nil ?_
            refine SC.next ?_
            refine SC.keep (l' := [(1, .int .i64 ((k : Nat) : Int)), (2, .int .u32 vv), (3, .pointer (some ⟨g1, 0, none⟩)), (6, .bool false), (31, .bool true)]) [1, 2, 3, 6, 31] (by kernel_rfl) ?_
            refine SC.yes (by kernel_rfl) ?_
            refine SC.seq (by kernel_rfl) ?_
            refine SC.region [0, 1] (by kernel_rfl) (by kernel_rfl) ?_
            refine SL.call (d := 32) (f := 8) (vs := []) (by kernel_rfl) (by kernel_rfl) (known20_walk w11) ?_
            rintro e w26 ⟨rfl, hb27⟩
            refine ⟨_, rfl, ?_⟩
            have M28 := M13.call hb27
            refine SL.run (d := 6) (v := .bool true) (by kernel_rfl) ?_
            refine SL.nil ?_
            refine SC.next ?_
            refine SC.ret (by kernel_rfl) ?_
            refine SQ.seqExit (by nofun) ?_
            refine SQ.ret1 (t := 6) (v := .bool true) (.inr rfl) (by kernel_rfl) (by kernel_rfl) ?_
            exact ⟨rfl, M28.bel⟩
          · skip
            have ph25 : ¬ (((xl3.length : Nat) : Int) ≤ ((k : Nat) : Int)) := of_decide_eq_false h25
            refine SL.bool (d := 30) (x := (decide (((xl3.length : Nat) : Int) ≤ ((k : Nat) : Int)))) (y := false) h25 (by kernel_rfl) ?_
            refine SL.pick (d := 31) (v := .bool false) (by kernel_rfl) ?_
            refine SL.nil ?_
            refine SC.next ?_
            refine SC.keep (l' := [(1, .int .i64 ((k : Nat) : Int)), (2, .int .u32 vv), (3, .pointer (some ⟨g1, 0, none⟩)), (6, .bool false), (31, .bool false)]) [1, 2, 3, 6, 31] (by kernel_rfl) ?_
            refine SC.no (by kernel_rfl) ?_
            refine SC.skip (by kernel_rfl) ?_
            refine SC.next ?_
            refine SC.seq (by kernel_rfl) ?_
            refine SC.region [0, 1, 2] (by kernel_rfl) (by kernel_rfl) ?_
            refine SL.load (d := 33) (t := 26) (a := .pointer (some ⟨g1, 0, none⟩)) (v := .agg #[.string xn, .slice xa1 xl1.length xc1, .slice xa2 xl2.length xc2, .slice xa3 xl3.length xc3]) (by kernel_rfl) (M13.ldBox 0 rfl Try.underlying26 rfl (by kernel_rfl)) ?_
            refine SL.allocM (d := 7) (t := 26) (z := .agg #[.string ⟨#[]⟩, .slice none 0 0, .slice none 0 0, .slice none 0 0]) (cs := #[.string ⟨#[]⟩, .slice none 0 0, .slice none 0 0, .slice none 0 0]) M13 (by kernel_rfl) (by kernel_rfl) rfl ?_
            intro g29 w30 hb31 ⟨bg29, lg29⟩ M32
            refine SL.storeM (t := 26) (a := .pointer (some ⟨g29, 0, none⟩)) (v := .agg #[.string xn, .slice xa1 xl1.length xc1, .slice xa2 xl2.length xc2, .slice xa3 xl3.length xc3]) (L' := [bx g29 #[.string xn, .slice xa1 xl1.length xc1, .slice xa2 xl2.length xc2, .slice xa3 xl3.length xc3] 26, bx g1 #[.string xn, .slice xa1 xl1.length xc1, .slice xa2 xl2.length xc2, .slice xa3 xl3.length xc3] 26]) (by kernel_rfl) (M32.stBox 0 rfl rfl (by kernel_rfl) rfl) ?_
            intro w33 M34 hk35 shk35
            refine SL.nil ?_
            refine SC.next ?_
            refine SC.seq (by kernel_rfl) ?_
            refine SC.region [0, 1, 2, 3, 4] (by kernel_rfl) (by kernel_rfl) ?_
            refine SL.run (d := 34) (v := .pointer (some ⟨g1, 3, none⟩)) (by kernel_rfl) ?_
            refine SL.load (d := 35) (t := 24) (a := .pointer (some ⟨g1, 3, none⟩)) (v := .slice xa3 xl3.length xc3) (by kernel_rfl) (M34.ldCell 1 rfl (j := 3) (v := .slice xa3 xl3.length xc3) rfl Try.underlying24 rfl) ?_
            refine SL.appendM (d := 36) (ts := [24, 24]) (ty := 24) (vs := [.slice none 0 0, .slice xa3 xl3.length xc3]) (k' := xl3.length) (L' := fun a36 c37 => [rw' a36 xl3.length c37 37 6 (xl3.flatMap FO.cells), bx g29 #[.string xn, .slice xa1 xl1.length xc1, .slice xa2 xl2.length xc2, .slice xa3 xl3.length xc3] 26, bx g1 #[.string xn, .slice xa1 xl1.length xc1, .slice xa2 xl2.length xc2, .slice xa3 xl3.length xc3] 26]) (by kernel_rfl) (Mem.append (m := xl3.length) (news := (xl3.flatMap FO.cells)) (Mem.addNil (e := 37) (size := 6) M34) 0 rfl (ET.of Try.underlying24 (by kernel_rfl) (by decide) (by decide) : ET Try.prog 24 37 (.agg #[.int .i64 0, .string ⟨#[]⟩, .int .i64 0, .int .i64 0, .int .u32 0, .slice none 0 0]) 6 72) ((hx.bel M34.bel).objs.row : RdC w33 xa3 xl3.length xc3 (xl3.flatMap FO.cells)) (flat_len foD xl3) (obj_one xl3) (by omega) (by omega) (by omega)) ?_
            intro a36 c37 w38 M39 hk40
            obtain ⟨og41, rfl, _, _⟩ := own_open (M39.get 0 rfl : Go.World.ownsRow w38 0 37 6 (.slice a36 xl3.length c37) xl3.length (xl3.flatMap FO.cells)) (by omega)
            refine SL.run (d := 37) (v := .pointer (some ⟨g29, 3, none⟩)) (by kernel_rfl) ?_
            refine SL.storeM (t := 24) (a := .pointer (some ⟨g29, 3, none⟩)) (v := .slice (some ⟨og41, 0, none⟩) xl3.length c37) (L' := [rw' (some ⟨og41, 0, none⟩) xl3.length c37 37 6 (xl3.flatMap FO.cells), bx g29 #[.string xn, .slice xa1 xl1.length xc1, .slice xa2 xl2.length xc2, .slice (some ⟨og41, 0, none⟩) xl3.length c37] 26, bx g1 #[.string xn, .slice xa1 xl1.length xc1, .slice xa2 xl2.length xc2, .slice xa3 xl3.length xc3] 26]) (by kernel_rfl) (M39.st1 1 rfl 3 rfl 24 rfl (by kernel_rfl) rfl) ?_
            intro w42 M43 hk44 shk44
            refine SL.nil ?_
            refine SC.next ?_
            refine SC.seq (by kernel_rfl) ?_
            refine SC.region [0, 1, 2, 3, 4, 5, 6, 7, 8] (by kernel_rfl) (by kernel_rfl) ?_
            refine SL.run (d := 38) (v := .pointer (some ⟨g29, 3, none⟩)) (by kernel_rfl) ?_
            refine SL.load (d := 39) (t := 24) (a := .pointer (some ⟨g29, 3, none⟩)) (v := .slice (some ⟨og41, 0, none⟩) xl3.length c37) (by kernel_rfl) (M43.ldCell 1 rfl (j := 3) (v := .slice (some ⟨og41, 0, none⟩) xl3.length c37) rfl Try.underlying24 rfl) ?_
            refine SL.run (d := 40) (v := .int .i64 ((k : Nat) : Int)) (by kernel_rfl) ?_
            refine SL.index (d := 41) (t := 24) (e := 37) (b := og41) (o := 0) (len := xl3.length) (cap := c37) (sz := 6) (k := .i64) (m := ((k : Nat) : Int)) k (by kernel_rfl) Try.underlying24 (by kernel_rfl) rfl (by omega) ?_
            refine SL.run (d := 42) (v := .pointer (some ⟨og41, 0 + k * 6 + 4, none⟩)) (by kernel_rfl) ?_
            refine SL.load (d := 43) (t := 30) (a := .pointer (some ⟨og41, 0 + k * 6 + 4, none⟩)) (v := .int .u32 va) (by kernel_rfl) (Mem.ldRow M43 0 rfl (k * 6 + 4) (hel 4 _ rfl) Try.underlying30 rfl (by omega)) ?_
            refine SL.run (d := 44) (v := .int .u32 vv) (by kernel_rfl) ?_
            rcases Bool.eq_false_or_eq_true (decide (va = vv)) with h45 | h45
            · skip
              have ph45 : va = vv := of_decide_eq_true h45
              refine SL.bool (d := 45) (x := (va != vv)) (y := false) ((int_bne _ _).trans (by rw [h45]; rfl)) (by kernel_rfl) ?_
              refine SL.run (d := 8) (v := .bool false) (by kernel_rfl) ?_
              refine SL.nil ?_
              refine SC.next ?_
              refine SC.keep (l' := [(1, .int .i64 ((k : Nat) : Int)), (2, .int .u32 vv), (3, .pointer (some ⟨g1, 0, none⟩)), (6, .bool false), (7, .pointer (some ⟨g29, 0, none⟩)), (8, .bool false)]) [1, 2, 3, 6, 7, 8] (by kernel_rfl) ?_
              refine SC.seq (by kernel_rfl) ?_
              refine SC.region [0, 1, 2, 3, 4, 5, 6] (by kernel_rfl) (by kernel_rfl) ?_
              refine SL.run (d := 46) (v := .pointer (some ⟨g29, 3, none⟩)) (by kernel_rfl) ?_
              refine SL.load (d := 47) (t := 24) (a := .pointer (some ⟨g29, 3, none⟩)) (v := .slice (some ⟨og41, 0, none⟩) xl3.length c37) (by kernel_rfl) (M43.ldCell 1 rfl (j := 3) (v := .slice (some ⟨og41, 0, none⟩) xl3.length c37) rfl Try.underlying24 rfl) ?_
              refine SL.run (d := 48) (v := .int .i64 ((k : Nat) : Int)) (by kernel_rfl) ?_
              refine SL.run (d := 49) (v := .int .u32 vv) (by kernel_rfl) ?_
              refine SL.index (d := 50) (t := 24) (e := 37) (b := og41) (o := 0) (len := xl3.length) (cap := c37) (sz := 6) (k := .i64) (m := ((k : Nat) : Int)) k (by kernel_rfl) Try.underlying24 (by kernel_rfl) rfl (by omega) ?_
              refine SL.run (d := 51) (v := .pointer (some ⟨og41, 0 + k * 6 + 4, none⟩)) (by kernel_rfl) ?_
              refine SL.storeM (t := 30) (a := .pointer (some ⟨og41, 0 + k * 6 + 4, none⟩)) (v := .int .u32 vv) (L' := [rw' (some ⟨og41, 0, none⟩) xl3.length c37 37 6 ((xl3.set k ⟨cl, on, ⟨bm, bi⟩, vv, ⟨pa, pc, pl⟩⟩).flatMap FO.cells), bx g29 #[.string xn, .slice xa1 xl1.length xc1, .slice xa2 xl2.length xc2, .slice (some ⟨og41, 0, none⟩) xl3.length c37] 26, bx g1 #[.string xn, .slice xa1 xl1.length xc1, .slice xa2 xl2.length xc2, .slice xa3 xl3.length xc3] 26]) (by kernel_rfl) (Mem.stRow' M43 0 rfl (k * 6 + 4) (by show k * 6 + _ < (xl3.flatMap foD.cells).length; rw [flat_len foD]; show _ < _ * 6; omega) rfl (by kernel_rfl) (flat_set xl3 k ⟨cl, on, ⟨bm, bi⟩, va, ⟨pa, pc, pl⟩⟩ ⟨cl, on, ⟨bm, bi⟩, vv, ⟨pa, pc, pl⟩⟩ 4 _ hko (by decide) rfl).symm (by omega)) ?_
              intro w46 M47 hk48 shk48
              refine SL.nil ?_
              refine SC.next ?_
              refine SC.seq (by kernel_rfl) ?_
              refine SC.region [0, 1, 2] (by kernel_rfl) (by kernel_rfl) ?_
              refine SL.load (d := 52) (t := 26) (a := .pointer (some ⟨g1, 0, none⟩)) (v := .agg #[.string xn, .slice xa1 xl1.length xc1, .slice xa2 xl2.length xc2, .slice xa3 xl3.length xc3]) (by kernel_rfl) (M47.ldBox 2 rfl Try.underlying26 rfl (by kernel_rfl)) ?_
              refine SL.allocM (d := 9) (t := 26) (z := .agg #[.string ⟨#[]⟩, .slice none 0 0, .slice none 0 0, .slice none 0 0]) (cs := #[.string ⟨#[]⟩, .slice none 0 0, .slice none 0 0, .slice none 0 0]) M47 (by kernel_rfl) (by kernel_rfl) rfl ?_
              intro g49 w50 hb51 ⟨bg49, lg49⟩ M52
              refine SL.storeM (t := 26) (a := .pointer (some ⟨g49, 0, none⟩)) (v := .agg #[.string xn, .slice xa1 xl1.length xc1, .slice xa2 xl2.length xc2, .slice xa3 xl3.length xc3]) (L' := [bx g49 #[.string xn, .slice xa1 xl1.length xc1, .slice xa2 xl2.length xc2, .slice xa3 xl3.length xc3] 26, rw' (some ⟨og41, 0, none⟩) xl3.length c37 37 6 ((xl3.set k ⟨cl, on, ⟨bm, bi⟩, vv, ⟨pa, pc, pl⟩⟩).flatMap FO.cells), bx g29 #[.string xn, .slice xa1 xl1.length xc1, .slice xa2 xl2.length xc2, .slice (some ⟨og41, 0, none⟩) xl3.length c37] 26, bx g1 #[.string xn, .slice xa1 xl1.length xc1, .slice xa2 xl2.length xc2, .slice xa3 xl3.length xc3] 26]) (by kernel_rfl) (M52.stBox 0 rfl rfl (by kernel_rfl) rfl) ?_
              intro w53 M54 hk55 shk55
              refine SL.nil ?_
              refine SC.next ?_
              refine SC.seq (by kernel_rfl) ?_
              refine SC.region [0, 1, 2, 3, 4] (by kernel_rfl) (by kernel_rfl) ?_
              refine SL.run (d := 53) (v := .pointer (some ⟨g1, 3, none⟩)) (by kernel_rfl) ?_
              refine SL.load (d := 54) (t := 24) (a := .pointer (some ⟨g1, 3, none⟩)) (v := .slice xa3 xl3.length xc3) (by kernel_rfl) (M54.ldCell 3 rfl (j := 3) (v := .slice xa3 xl3.length xc3) rfl Try.underlying24 rfl) ?_
              refine SL.appendM (d := 55) (ts := [24, 24]) (ty := 24) (vs := [.slice none 0 0, .slice xa3 xl3.length xc3]) (k' := xl3.length) (L' := fun a56 c57 => [rw' a56 xl3.length c57 37 6 (xl3.flatMap FO.cells), bx g49 #[.string xn, .slice xa1 xl1.length xc1, .slice xa2 xl2.length xc2, .slice xa3 xl3.length xc3] 26, rw' (some ⟨og41, 0, none⟩) xl3.length c37 37 6 ((xl3.set k ⟨cl, on, ⟨bm, bi⟩, vv, ⟨pa, pc, pl⟩⟩).flatMap FO.cells), bx g29 #[.string xn, .slice xa1 xl1.length xc1, .slice xa2 xl2.length xc2, .slice (some ⟨og41, 0, none⟩) xl3.length c37] 26, bx g1 #[.string xn, .slice xa1 xl1.length xc1, .slice xa2 xl2.length xc2, .slice xa3 xl3.length xc3] 26]) (by kernel_rfl) (Mem.append (m := xl3.length) (news := (xl3.flatMap FO.cells)) (Mem.addNil (e := 37) (size := 6) M54) 0 rfl (ET.of Try.underlying24 (by kernel_rfl) (by decide) (by decide) : ET Try.prog 24 37 (.agg #[.int .i64 0, .string ⟨#[]⟩, .int .i64 0, .int .i64 0, .int .u32 0, .slice none 0 0]) 6 72) ((hx.bel M54.bel).objs.row : RdC w53 xa3 xl3.length xc3 (xl3.flatMap FO.cells)) (flat_len foD xl3) (obj_one xl3) (by omega) (by omega) (by omega)) ?_
              intro a56 c57 w58 M59 hk60
              obtain ⟨og61, rfl, _, _⟩ := own_open (M59.get 0 rfl : Go.World.ownsRow w58 0 37 6 (.slice a56 xl3.length c57) xl3.length (xl3.flatMap FO.cells)) (by omega)
              refine SL.run (d := 56) (v := .pointer (some ⟨g49, 3, none⟩)) (by kernel_rfl) ?_
              refine SL.storeM (t := 24) (a := .pointer (some ⟨g49, 3, none⟩)) (v := .slice (some ⟨og61, 0, none⟩) xl3.length c57) (L' := [rw' (some ⟨og61, 0, none⟩) xl3.length c57 37 6 (xl3.flatMap FO.cells), bx g49 #[.string xn, .slice xa1 xl1.length xc1, .slice xa2 xl2.length xc2, .slice (some ⟨og61, 0, none⟩) xl3.length c57] 26, rw' (some ⟨og41, 0, none⟩) xl3.length c37 37 6 ((xl3.set k ⟨cl, on, ⟨bm, bi⟩, vv, ⟨pa, pc, pl⟩⟩).flatMap FO.cells), bx g29 #[.string xn, .slice xa1 xl1.length xc1, .slice xa2 xl2.length xc2, .slice (some ⟨og41, 0, none⟩) xl3.length c37] 26, bx g1 #[.string xn, .slice xa1 xl1.length xc1, .slice xa2 xl2.length xc2, .slice xa3 xl3.length xc3] 26]) (by kernel_rfl) (M59.st1 1 rfl 3 rfl 24 rfl (by kernel_rfl) rfl) ?_
              intro w62 M63 hk64 shk64
              refine SL.nil ?_
              refine SC.next ?_
              refine SC.seq (by kernel_rfl) ?_
              refine SC.region [0, 1, 2, 3, 4, 5] (by kernel_rfl) (by kernel_rfl) ?_
              refine SL.run (d := 57) (v := .pointer (some ⟨g49, 3, none⟩)) (by kernel_rfl) ?_
              refine SL.load (d := 58) (t := 24) (a := .pointer (some ⟨g49, 3, none⟩)) (v := .slice (some ⟨og61, 0, none⟩) xl3.length c57) (by kernel_rfl) (M63.ldCell 1 rfl (j := 3) (v := .slice (some ⟨og61, 0, none⟩) xl3.length c57) rfl Try.underlying24 rfl) ?_
              refine SL.run (d := 59) (v := .int .i64 ((k : Nat) : Int)) (by kernel_rfl) ?_
              refine SL.index (d := 60) (t := 24) (e := 37) (b := og61) (o := 0) (len := xl3.length) (cap := c57) (sz := 6) (k := .i64) (m := ((k : Nat) : Int)) k (by kernel_rfl) Try.underlying24 (by kernel_rfl) rfl (by omega) ?_
              refine SL.run (d := 61) (v := .pointer (some ⟨og61, 0 + k * 6 + 1, none⟩)) (by kernel_rfl) ?_
              refine SL.storeM (t := 9) (a := .pointer (some ⟨og61, 0 + k * 6 + 1, none⟩)) (v := .string ⟨#[79, 116, 104, 101, 114, 119, 105, 115, 101]⟩) (L' := [rw' (some ⟨og61, 0, none⟩) xl3.length c57 37 6 ((xl3.set k ⟨cl, ⟨#[79, 116, 104, 101, 114, 119, 105, 115, 101]⟩, ⟨bm, bi⟩, va, ⟨pa, pc, pl⟩⟩).flatMap FO.cells), bx g49 #[.string xn, .slice xa1 xl1.length xc1, .slice xa2 xl2.length xc2, .slice (some ⟨og61, 0, none⟩) xl3.length c57] 26, rw' (some ⟨og41, 0, none⟩) xl3.length c37 37 6 ((xl3.set k ⟨cl, on, ⟨bm, bi⟩, vv, ⟨pa, pc, pl⟩⟩).flatMap FO.cells), bx g29 #[.string xn, .slice xa1 xl1.length xc1, .slice xa2 xl2.length xc2, .slice (some ⟨og41, 0, none⟩) xl3.length c37] 26, bx g1 #[.string xn, .slice xa1 xl1.length xc1, .slice xa2 xl2.length xc2, .slice xa3 xl3.length xc3] 26]) (by kernel_rfl) (Mem.stRow' M63 0 rfl (k * 6 + 1) (by show k * 6 + _ < (xl3.flatMap foD.cells).length; rw [flat_len foD]; show _ < _ * 6; omega) rfl (by kernel_rfl) (flat_set xl3 k ⟨cl, on, ⟨bm, bi⟩, va, ⟨pa, pc, pl⟩⟩ ⟨cl, ⟨#[79, 116, 104, 101, 114, 119, 105, 115, 101]⟩, ⟨bm, bi⟩, va, ⟨pa, pc, pl⟩⟩ 1 _ hko (by decide) rfl).symm (by omega)) ?_
              intro w65 M66 hk67 shk67
              refine SL.nil ?_
              refine SC.next ?_
              refine SC.keep (l' := [(3, .pointer (some ⟨g1, 0, none⟩)), (6, .bool false), (7, .pointer (some ⟨g29, 0, none⟩)), (8, .bool false), (9, .pointer (some ⟨g49, 0, none⟩))]) [3, 6, 7, 8, 9] (by kernel_rfl) ?_
              refine SC.seq (by kernel_rfl) ?_
              refine SC.region [0, 1, 2, 3, 4, 5, 6, 7] (by kernel_rfl) (by kernel_rfl) ?_
              refine SL.load (d := 63) (t := 26) (a := .pointer (some ⟨g1, 0, none⟩)) (v := .agg #[.string xn, .slice xa1 xl1.length xc1, .slice xa2 xl2.length xc2, .slice xa3 xl3.length xc3]) (by kernel_rfl) (M66.ldBox 4 rfl Try.underlying26 rfl (by kernel_rfl)) ?_
              refine SL.call (d := 64) (f := 11) (vs := [.agg #[.string xn, .slice xa1 xl1.length xc1, .slice xa2 xl2.length xc2, .slice xa3 xl3.length xc3], .string ⟨#[79, 116, 104, 101, 114, 119, 105, 115, 101]⟩]) (by kernel_rfl) (by kernel_rfl) (find_walk (⟨xn, ⟨xa1, xc1, xl1⟩, ⟨xa2, xc2, xl2⟩, ⟨xa3, xc3, xl3⟩⟩ : Fc) ⟨#[79, 116, 104, 101, 114, 119, 105, 115, 101]⟩ w65 (hx.bel M66.bel) hpm) ?_
              rintro e w68 ⟨hf, hb69⟩
              have M70 := M66.call hb69
              rcases found_cases hf with ⟨dl, qn, em, ei, ua, qa, qc, ql, ta, tc, tl, hq, hqn, htl, hrt, rfl⟩ | ⟨hno, rfl⟩
              · skip
                refine ⟨_, rfl, ?_⟩
                refine SL.run (d := 62) (v := .tuple #[.agg #[.int .i64 dl, .string qn, .int .i64 em, .int .i64 ei, .int .u32 ua, .slice ta tl.length tc], .bool true]) (by kernel_rfl) ?_
                refine SL.run (d := 65) (v := .agg #[.int .i64 dl, .string qn, .int .i64 em, .int .i64 ei, .int .u32 ua, .slice ta tl.length tc]) (by kernel_rfl) ?_
                refine SL.run (d := 66) (v := .bool true) (by kernel_rfl) ?_
                refine SL.allocM (d := 10) (t := 37) (z := .agg #[.int .i64 0, .string ⟨#[]⟩, .int .i64 0, .int .i64 0, .int .u32 0, .slice none 0 0]) (cs := #[.int .i64 0, .string ⟨#[]⟩, .int .i64 0, .int .i64 0, .int .u32 0, .slice none 0 0]) M70 (by kernel_rfl) (by kernel_rfl) rfl ?_
                intro g71 w72 hb73 ⟨bg71, lg71⟩ M74
                refine SL.storeM (t := 37) (a := .pointer (some ⟨g71, 0, none⟩)) (v := .agg #[.int .i64 dl, .string qn, .int .i64 em, .int .i64 ei, .int .u32 ua, .slice ta tl.length tc]) (L' := [bx g71 #[.int .i64 dl, .string qn, .int .i64 em, .int .i64 ei, .int .u32 ua, .slice ta tl.length tc] 37, rw' (some ⟨og61, 0, none⟩) xl3.length c57 37 6 ((xl3.set k ⟨cl, ⟨#[79, 116, 104, 101, 114, 119, 105, 115, 101]⟩, ⟨bm, bi⟩, va, ⟨pa, pc, pl⟩⟩).flatMap FO.cells), bx g49 #[.string xn, .slice xa1 xl1.length xc1, .slice xa2 xl2.length xc2, .slice (some ⟨og61, 0, none⟩) xl3.length c57] 26, rw' (some ⟨og41, 0, none⟩) xl3.length c37 37 6 ((xl3.set k ⟨cl, on, ⟨bm, bi⟩, vv, ⟨pa, pc, pl⟩⟩).flatMap FO.cells), bx g29 #[.string xn, .slice xa1 xl1.length xc1, .slice xa2 xl2.length xc2, .slice (some ⟨og41, 0, none⟩) xl3.length c37] 26, bx g1 #[.string xn, .slice xa1 xl1.length xc1, .slice xa2 xl2.length xc2, .slice xa3 xl3.length xc3] 26]) (by kernel_rfl) (M74.stBox 0 rfl rfl (by kernel_rfl) rfl) ?_
                intro w75 M76 hk77 shk77
                refine SL.run (d := 11) (v := .bool true) (by kernel_rfl) ?_
                refine SL.nil ?_
                refine SC.next ?_
                refine SC.seq (by kernel_rfl) ?_
                refine SC.region [0, 1, 2, 3, 4, 5, 6, 7, 8, 9, 10, 11, 12, 13, 14, 15, 16, 17, 18, 19, 20, 21, 22] (by kernel_rfl) (by kernel_rfl) ?_
                refine SL.load (d := 67) (t := 26) (a := .pointer (some ⟨g29, 0, none⟩)) (v := .agg #[.string xn, .slice xa1 xl1.length xc1, .slice xa2 xl2.length xc2, .slice (some ⟨og41, 0, none⟩) xl3.length c37]) (by kernel_rfl) (M76.ldBox 4 rfl Try.underlying26 rfl (by kernel_rfl)) ?_
                obtain ⟨mg, hmg⟩ : ∃ b, mayFace (withO (⟨xn, ⟨xa1, xc1, xl1⟩, ⟨xa2, xc2, xl2⟩, ⟨xa3, xc3, xl3⟩⟩ : Fc).d k (FO.d ⟨cl, on, ⟨bm, bi⟩, vv, ⟨pa, pc, pl⟩⟩)) = b := ⟨_, rfl⟩
                refine SL.call (d := 68) (f := 10) (vs := [.agg #[.string xn, .slice xa1 xl1.length xc1, .slice xa2 xl2.length xc2, .slice (some ⟨og41, 0, none⟩) xl3.length c37]]) (by kernel_rfl) (by kernel_rfl) (rmay_w (f := (⟨xn, ⟨xa1, xc1, xl1⟩, ⟨xa2, xc2, xl2⟩, ⟨xa3, xc3, xl3⟩⟩ : Fc)) (k := k) (o := ⟨cl, on, ⟨bm, bi⟩, vv, ⟨pa, pc, pl⟩⟩) hx M76.bel (M76.rd 3 rfl) ho1 hmg) ?_
                rintro e w78 ⟨rfl, hb79⟩
                refine ⟨_, rfl, ?_⟩
                have M80 := M76.call hb79
                cases mg
                · skip
                  refine SL.run (d := 69) (v := .bool true) (by kernel_rfl) ?_
                  refine SL.run (d := 70) (v := .bool true) (by kernel_rfl) ?_
                  refine SL.offs [4, 5, 6, 7, 8] (is := [9, 10, 11, 12, 13, 14, 15, 16, 17, 18, 19, 20, 21, 22]) rfl (by kernel_rfl) ?_
                  refine SL.pick (d := 76) (v := .bool true) (by kernel_rfl) ?_
                  refine SL.run (d := 77) (v := .bool true) (by kernel_rfl) ?_
                  refine SL.run (d := 78) (v := .bool true) (by kernel_rfl) ?_
                  refine SL.run (d := 79) (v := .bool true) (by kernel_rfl) ?_
                  refine SL.offs [13, 14, 15, 16] (is := [17, 18, 19, 20, 21, 22]) rfl (by kernel_rfl) ?_
                  refine SL.pick (d := 84) (v := .bool true) (by kernel_rfl) ?_
                  refine SL.pick (d := 85) (v := .bool true) (by kernel_rfl) ?_
                  refine SL.run (d := 86) (v := .bool true) (by kernel_rfl) ?_
                  refine SL.call (d := 87) (f := 8) (vs := []) (by kernel_rfl) (by kernel_rfl) (known20_walk w78) ?_
                  rintro e w81 ⟨rfl, hb82⟩
                  refine ⟨_, rfl, ?_⟩
                  have M83 := M80.call hb82
                  refine SL.pick (d := 88) (v := .bool true) (by kernel_rfl) ?_
                  refine SL.run (d := 6) (v := .bool true) (by kernel_rfl) ?_
                  refine SL.nil ?_
                  refine SC.next ?_
                  refine SC.keep (l' := [(6, .bool true)]) [6] (by kernel_rfl) ?_
                  refine SC.ret (by kernel_rfl) ?_
                  refine SQ.ret1 (t := 6) (v := .bool true) (.inr rfl) (by kernel_rfl) (by kernel_rfl) ?_
                  exact ⟨rfl, M83.bel⟩
                · skip
                  refine SL.run (d := 69) (v := .bool false) (by kernel_rfl) ?_
                  refine SL.run (d := 70) (v := .bool false) (by kernel_rfl) ?_
                  refine SL.load (d := 71) (t := 26) (a := .pointer (some ⟨g1, 0, none⟩)) (v := .agg #[.string xn, .slice xa1 xl1.length xc1, .slice xa2 xl2.length xc2, .slice xa3 xl3.length xc3]) (by kernel_rfl) (M80.ldBox 5 rfl Try.underlying26 rfl (by kernel_rfl)) ?_
                  refine SL.load (d := 72) (t := 26) (a := .pointer (some ⟨g29, 0, none⟩)) (v := .agg #[.string xn, .slice xa1 xl1.length xc1, .slice xa2 xl2.length xc2, .slice (some ⟨og41, 0, none⟩) xl3.length c37]) (by kernel_rfl) (M80.ldBox 4 rfl Try.underlying26 rfl (by kernel_rfl)) ?_
                  refine SL.call (d := 73) (f := 9) (vs := [.agg #[.string xn, .slice xa1 xl1.length xc1, .slice xa2 xl2.length xc2, .slice xa3 xl3.length xc3], .agg #[.string xn, .slice xa1 xl1.length xc1, .slice xa2 xl2.length xc2, .slice (some ⟨og41, 0, none⟩) xl3.length c37]]) (by kernel_rfl) (by kernel_rfl) (shows_w (f := (⟨xn, ⟨xa1, xc1, xl1⟩, ⟨xa2, xc2, xl2⟩, ⟨xa3, xc3, xl3⟩⟩ : Fc)) (k := k) (o := ⟨cl, on, ⟨bm, bi⟩, vv, ⟨pa, pc, pl⟩⟩) hx M80.bel (M80.rd 3 rfl) ho1 (m := true) (by rw [hcv hmg]; simp [‹va = vv›])) ?_
                  rintro e w84 ⟨rfl, hb85⟩
                  refine ⟨_, rfl, ?_⟩
                  have M86 := M80.call hb85
                  refine SL.run (d := 74) (v := .bool false) (by kernel_rfl) ?_
                  refine SL.run (d := 75) (v := .bool true) (by kernel_rfl) ?_
                  refine SL.pick (d := 76) (v := .bool true) (by kernel_rfl) ?_
                  refine SL.run (d := 77) (v := .bool true) (by kernel_rfl) ?_
                  refine SL.run (d := 78) (v := .bool true) (by kernel_rfl) ?_
                  refine SL.run (d := 79) (v := .bool true) (by kernel_rfl) ?_
                  refine SL.offs [13, 14, 15, 16] (is := [17, 18, 19, 20, 21, 22]) rfl (by kernel_rfl) ?_
                  refine SL.pick (d := 84) (v := .bool true) (by kernel_rfl) ?_
                  refine SL.pick (d := 85) (v := .bool true) (by kernel_rfl) ?_
                  refine SL.run (d := 86) (v := .bool true) (by kernel_rfl) ?_
                  refine SL.call (d := 87) (f := 8) (vs := []) (by kernel_rfl) (by kernel_rfl) (known20_walk w84) ?_
                  rintro e w87 ⟨rfl, hb88⟩
                  refine ⟨_, rfl, ?_⟩
                  have M89 := M86.call hb88
                  refine SL.pick (d := 88) (v := .bool true) (by kernel_rfl) ?_
                  refine SL.run (d := 6) (v := .bool true) (by kernel_rfl) ?_
                  refine SL.nil ?_
                  refine SC.next ?_
                  refine SC.keep (l' := [(6, .bool true)]) [6] (by kernel_rfl) ?_
                  refine SC.ret (by kernel_rfl) ?_
                  refine SQ.ret1 (t := 6) (v := .bool true) (.inr rfl) (by kernel_rfl) (by kernel_rfl) ?_
                  exact ⟨rfl, M89.bel⟩
              · skip
                refine ⟨_, rfl, ?_⟩
                refine SL.run (d := 62) (v := .tuple #[.agg #[.int .i64 0, .string ⟨#[]⟩, .int .i64 0, .int .i64 0, .int .u32 0, .slice none 0 0], .bool false]) (by kernel_rfl) ?_
                refine SL.run (d := 65) (v := .agg #[.int .i64 0, .string ⟨#[]⟩, .int .i64 0, .int .i64 0, .int .u32 0, .slice none 0 0]) (by kernel_rfl) ?_
                refine SL.run (d := 66) (v := .bool false) (by kernel_rfl) ?_
                refine SL.allocM (d := 10) (t := 37) (z := .agg #[.int .i64 0, .string ⟨#[]⟩, .int .i64 0, .int .i64 0, .int .u32 0, .slice none 0 0]) (cs := #[.int .i64 0, .string ⟨#[]⟩, .int .i64 0, .int .i64 0, .int .u32 0, .slice none 0 0]) M70 (by kernel_rfl) (by kernel_rfl) rfl ?_
                intro g90 w91 hb92 ⟨bg90, lg90⟩ M93
                refine SL.storeM (t := 37) (a := .pointer (some ⟨g90, 0, none⟩)) (v := .agg #[.int .i64 0, .string ⟨#[]⟩, .int .i64 0, .int .i64 0, .int .u32 0, .slice none 0 0]) (L' := [bx g90 #[.int .i64 0, .string ⟨#[]⟩, .int .i64 0, .int .i64 0, .int .u32 0, .slice none 0 0] 37, rw' (some ⟨og61, 0, none⟩) xl3.length c57 37 6 ((xl3.set k ⟨cl, ⟨#[79, 116, 104, 101, 114, 119, 105, 115, 101]⟩, ⟨bm, bi⟩, va, ⟨pa, pc, pl⟩⟩).flatMap FO.cells), bx g49 #[.string xn, .slice xa1 xl1.length xc1, .slice xa2 xl2.length xc2, .slice (some ⟨og61, 0, none⟩) xl3.length c57] 26, rw' (some ⟨og41, 0, none⟩) xl3.length c37 37 6 ((xl3.set k ⟨cl, on, ⟨bm, bi⟩, vv, ⟨pa, pc, pl⟩⟩).flatMap FO.cells), bx g29 #[.string xn, .slice xa1 xl1.length xc1, .slice xa2 xl2.length xc2, .slice (some ⟨og41, 0, none⟩) xl3.length c37] 26, bx g1 #[.string xn, .slice xa1 xl1.length xc1, .slice xa2 xl2.length xc2, .slice xa3 xl3.length xc3] 26]) (by kernel_rfl) (M93.stBox 0 rfl rfl (by kernel_rfl) rfl) ?_
                intro w94 M95 hk96 shk96
                refine SL.run (d := 11) (v := .bool false) (by kernel_rfl) ?_
                refine SL.nil ?_
                refine SC.next ?_
                refine SC.seq (by kernel_rfl) ?_
                refine SC.region [0, 1, 2, 3, 4, 5, 6, 7, 8, 9, 10, 11, 12, 13, 14, 15, 16, 17, 18, 19, 20, 21, 22] (by kernel_rfl) (by kernel_rfl) ?_
                refine SL.load (d := 67) (t := 26) (a := .pointer (some ⟨g29, 0, none⟩)) (v := .agg #[.string xn, .slice xa1 xl1.length xc1, .slice xa2 xl2.length xc2, .slice (some ⟨og41, 0, none⟩) xl3.length c37]) (by kernel_rfl) (M95.ldBox 4 rfl Try.underlying26 rfl (by kernel_rfl)) ?_
                obtain ⟨mg, hmg⟩ : ∃ b, mayFace (withO (⟨xn, ⟨xa1, xc1, xl1⟩, ⟨xa2, xc2, xl2⟩, ⟨xa3, xc3, xl3⟩⟩ : Fc).d k (FO.d ⟨cl, on, ⟨bm, bi⟩, vv, ⟨pa, pc, pl⟩⟩)) = b := ⟨_, rfl⟩
                refine SL.call (d := 68) (f := 10) (vs := [.agg #[.string xn, .slice xa1 xl1.length xc1, .slice xa2 xl2.length xc2, .slice (some ⟨og41, 0, none⟩) xl3.length c37]]) (by kernel_rfl) (by kernel_rfl) (rmay_w (f := (⟨xn, ⟨xa1, xc1, xl1⟩, ⟨xa2, xc2, xl2⟩, ⟨xa3, xc3, xl3⟩⟩ : Fc)) (k := k) (o := ⟨cl, on, ⟨bm, bi⟩, vv, ⟨pa, pc, pl⟩⟩) hx M95.bel (M95.rd 3 rfl) ho1 hmg) ?_
                rintro e w97 ⟨rfl, hb98⟩
                refine ⟨_, rfl, ?_⟩
                have M99 := M95.call hb98
                cases mg
                · skip
                  refine SL.run (d := 69) (v := .bool true) (by kernel_rfl) ?_
                  refine SL.run (d := 70) (v := .bool true) (by kernel_rfl) ?_
                  refine SL.offs [4, 5, 6, 7, 8] (is := [9, 10, 11, 12, 13, 14, 15, 16, 17, 18, 19, 20, 21, 22]) rfl (by kernel_rfl) ?_
                  refine SL.pick (d := 76) (v := .bool true) (by kernel_rfl) ?_
                  refine SL.run (d := 77) (v := .bool true) (by kernel_rfl) ?_
                  refine SL.run (d := 78) (v := .bool false) (by kernel_rfl) ?_
                  refine SL.run (d := 79) (v := .bool false) (by kernel_rfl) ?_
                  refine SL.load (d := 80) (t := 26) (a := .pointer (some ⟨g1, 0, none⟩)) (v := .agg #[.string xn, .slice xa1 xl1.length xc1, .slice xa2 xl2.length xc2, .slice xa3 xl3.length xc3]) (by kernel_rfl) (M99.ldBox 5 rfl Try.underlying26 rfl (by kernel_rfl)) ?_
                  refine SL.load (d := 81) (t := 26) (a := .pointer (some ⟨g49, 0, none⟩)) (v := .agg #[.string xn, .slice xa1 xl1.length xc1, .slice xa2 xl2.length xc2, .slice (some ⟨og61, 0, none⟩) xl3.length c57]) (by kernel_rfl) (M99.ldBox 2 rfl Try.underlying26 rfl (by kernel_rfl)) ?_
                  refine SL.call (d := 82) (f := 9) (vs := [.agg #[.string xn, .slice xa1 xl1.length xc1, .slice xa2 xl2.length xc2, .slice xa3 xl3.length xc3], .agg #[.string xn, .slice xa1 xl1.length xc1, .slice xa2 xl2.length xc2, .slice (some ⟨og61, 0, none⟩) xl3.length c57]]) (by kernel_rfl) (by kernel_rfl) (shows_w (f := (⟨xn, ⟨xa1, xc1, xl1⟩, ⟨xa2, xc2, xl2⟩, ⟨xa3, xc3, xl3⟩⟩ : Fc)) (k := k) (o := ⟨cl, ⟨#[79, 116, 104, 101, 114, 119, 105, 115, 101]⟩, ⟨bm, bi⟩, va, ⟨pa, pc, pl⟩⟩) hx M99.bel (M99.rd 1 rfl) ho2 (hcn hno)) ?_
                  rintro e w100 ⟨rfl, hb101⟩
                  refine ⟨_, rfl, ?_⟩
                  have M102 := M99.call hb101
                  refine SL.run (d := 83) (v := .bool true) (by kernel_rfl) ?_
                  refine SL.pick (d := 84) (v := .bool true) (by kernel_rfl) ?_
                  refine SL.pick (d := 85) (v := .bool true) (by kernel_rfl) ?_
                  refine SL.run (d := 86) (v := .bool true) (by kernel_rfl) ?_
                  refine SL.call (d := 87) (f := 8) (vs := []) (by kernel_rfl) (by kernel_rfl) (known20_walk w100) ?_
                  rintro e w103 ⟨rfl, hb104⟩
                  refine ⟨_, rfl, ?_⟩
                  have M105 := M102.call hb104
                  refine SL.pick (d := 88) (v := .bool true) (by kernel_rfl) ?_
                  refine SL.run (d := 6) (v := .bool true) (by kernel_rfl) ?_
                  refine SL.nil ?_
                  refine SC.next ?_
                  refine SC.keep (l' := [(6, .bool true)]) [6] (by kernel_rfl) ?_
                  refine SC.ret (by kernel_rfl) ?_
                  refine SQ.ret1 (t := 6) (v := .bool true) (.inr rfl) (by kernel_rfl) (by kernel_rfl) ?_
                  exact ⟨rfl, M105.bel⟩
                · skip
                  refine SL.run (d := 69) (v := .bool false) (by kernel_rfl) ?_
                  refine SL.run (d := 70) (v := .bool false) (by kernel_rfl) ?_
                  refine SL.load (d := 71) (t := 26) (a := .pointer (some ⟨g1, 0, none⟩)) (v := .agg #[.string xn, .slice xa1 xl1.length xc1, .slice xa2 xl2.length xc2, .slice xa3 xl3.length xc3]) (by kernel_rfl) (M99.ldBox 5 rfl Try.underlying26 rfl (by kernel_rfl)) ?_
                  refine SL.load (d := 72) (t := 26) (a := .pointer (some ⟨g29, 0, none⟩)) (v := .agg #[.string xn, .slice xa1 xl1.length xc1, .slice xa2 xl2.length xc2, .slice (some ⟨og41, 0, none⟩) xl3.length c37]) (by kernel_rfl) (M99.ldBox 4 rfl Try.underlying26 rfl (by kernel_rfl)) ?_
                  refine SL.call (d := 73) (f := 9) (vs := [.agg #[.string xn, .slice xa1 xl1.length xc1, .slice xa2 xl2.length xc2, .slice xa3 xl3.length xc3], .agg #[.string xn, .slice xa1 xl1.length xc1, .slice xa2 xl2.length xc2, .slice (some ⟨og41, 0, none⟩) xl3.length c37]]) (by kernel_rfl) (by kernel_rfl) (shows_w (f := (⟨xn, ⟨xa1, xc1, xl1⟩, ⟨xa2, xc2, xl2⟩, ⟨xa3, xc3, xl3⟩⟩ : Fc)) (k := k) (o := ⟨cl, on, ⟨bm, bi⟩, vv, ⟨pa, pc, pl⟩⟩) hx M99.bel (M99.rd 3 rfl) ho1 (m := true) (by rw [hcv hmg]; simp [‹va = vv›])) ?_
                  rintro e w106 ⟨rfl, hb107⟩
                  refine ⟨_, rfl, ?_⟩
                  have M108 := M99.call hb107
                  refine SL.run (d := 74) (v := .bool false) (by kernel_rfl) ?_
                  refine SL.run (d := 75) (v := .bool true) (by kernel_rfl) ?_
                  refine SL.pick (d := 76) (v := .bool true) (by kernel_rfl) ?_
                  refine SL.run (d := 77) (v := .bool true) (by kernel_rfl) ?_
                  refine SL.run (d := 78) (v := .bool false) (by kernel_rfl) ?_
                  refine SL.run (d := 79) (v := .bool false) (by kernel_rfl) ?_
                  refine SL.load (d := 80) (t := 26) (a := .pointer (some ⟨g1, 0, none⟩)) (v := .agg #[.string xn, .slice xa1 xl1.length xc1, .slice xa2 xl2.length xc2, .slice xa3 xl3.length xc3]) (by kernel_rfl) (M108.ldBox 5 rfl Try.underlying26 rfl (by kernel_rfl)) ?_
                  refine SL.load (d := 81) (t := 26) (a := .pointer (some ⟨g49, 0, none⟩)) (v := .agg #[.string xn, .slice xa1 xl1.length xc1, .slice xa2 xl2.length xc2, .slice (some ⟨og61, 0, none⟩) xl3.length c57]) (by kernel_rfl) (M108.ldBox 2 rfl Try.underlying26 rfl (by kernel_rfl)) ?_
                  refine SL.call (d := 82) (f := 9) (vs := [.agg #[.string xn, .slice xa1 xl1.length xc1, .slice xa2 xl2.length xc2, .slice xa3 xl3.length xc3], .agg #[.string xn, .slice xa1 xl1.length xc1, .slice xa2 xl2.length xc2, .slice (some ⟨og61, 0, none⟩) xl3.length c57]]) (by kernel_rfl) (by kernel_rfl) (shows_w (f := (⟨xn, ⟨xa1, xc1, xl1⟩, ⟨xa2, xc2, xl2⟩, ⟨xa3, xc3, xl3⟩⟩ : Fc)) (k := k) (o := ⟨cl, ⟨#[79, 116, 104, 101, 114, 119, 105, 115, 101]⟩, ⟨bm, bi⟩, va, ⟨pa, pc, pl⟩⟩) hx M108.bel (M108.rd 1 rfl) ho2 (hcn hno)) ?_
                  rintro e w109 ⟨rfl, hb110⟩
                  refine ⟨_, rfl, ?_⟩
                  have M111 := M108.call hb110
                  refine SL.run (d := 83) (v := .bool true) (by kernel_rfl) ?_
                  refine SL.pick (d := 84) (v := .bool true) (by kernel_rfl) ?_
                  refine SL.pick (d := 85) (v := .bool true) (by kernel_rfl) ?_
                  refine SL.run (d := 86) (v := .bool true) (by kernel_rfl) ?_
                  refine SL.call (d := 87) (f := 8) (vs := []) (by kernel_rfl) (by kernel_rfl) (known20_walk w109) ?_
                  rintro e w112 ⟨rfl, hb113⟩
                  refine ⟨_, rfl, ?_⟩
                  have M114 := M111.call hb113
                  refine SL.pick (d := 88) (v := .bool true) (by kernel_rfl) ?_
                  refine SL.run (d := 6) (v := .bool true) (by kernel_rfl) ?_
                  refine SL.nil ?_
                  refine SC.next ?_
                  refine SC.keep (l' := [(6, .bool true)]) [6] (by kernel_rfl) ?_
                  refine SC.ret (by kernel_rfl) ?_
                  refine SQ.ret1 (t := 6) (v := .bool true) (.inr rfl) (by kernel_rfl) (by kernel_rfl) ?_
                  exact ⟨rfl, M114.bel⟩
            · skip
              have ph45 : ¬ (va = vv) := of_decide_eq_false h45
              refine SL.bool (d := 45) (x := (va != vv)) (y := true) ((int_bne _ _).trans (by rw [h45]; rfl)) (by kernel_rfl) ?_
              refine SL.run (d := 8) (v := .bool true) (by kernel_rfl) ?_
              refine SL.nil ?_
              refine SC.next ?_
              refine SC.keep (l' := [(1, .int .i64 ((k : Nat) : Int)), (2, .int .u32 vv), (3, .pointer (some ⟨g1, 0, none⟩)), (6, .bool false), (7, .pointer (some ⟨g29, 0, none⟩)), (8, .bool true)]) [1, 2, 3, 6, 7, 8] (by kernel_rfl) ?_
              refine SC.seq (by kernel_rfl) ?_
              refine SC.region [0, 1, 2, 3, 4, 5, 6] (by kernel_rfl) (by kernel_rfl) ?_
              refine SL.run (d := 46) (v := .pointer (some ⟨g29, 3, none⟩)) (by kernel_rfl) ?_
              refine SL.load (d := 47) (t := 24) (a := .pointer (some ⟨g29, 3, none⟩)) (v := .slice (some ⟨og41, 0, none⟩) xl3.length c37) (by kernel_rfl) (M43.ldCell 1 rfl (j := 3) (v := .slice (some ⟨og41, 0, none⟩) xl3.length c37) rfl Try.underlying24 rfl) ?_
              refine SL.run (d := 48) (v := .int .i64 ((k : Nat) : Int)) (by kernel_rfl) ?_
              refine SL.run (d := 49) (v := .int .u32 vv) (by kernel_rfl) ?_
              refine SL.index (d := 50) (t := 24) (e := 37) (b := og41) (o := 0) (len := xl3.length) (cap := c37) (sz := 6) (k := .i64) (m := ((k : Nat) : Int)) k (by kernel_rfl) Try.underlying24 (by kernel_rfl) rfl (by omega) ?_
              refine SL.run (d := 51) (v := .pointer (some ⟨og41, 0 + k * 6 + 4, none⟩)) (by kernel_rfl) ?_
              refine SL.storeM (t := 30) (a := .pointer (some ⟨og41, 0 + k * 6 + 4, none⟩)) (v := .int .u32 vv) (L' := [rw' (some ⟨og41, 0, none⟩) xl3.length c37 37 6 ((xl3.set k ⟨cl, on, ⟨bm, bi⟩, vv, ⟨pa, pc, pl⟩⟩).flatMap FO.cells), bx g29 #[.string xn, .slice xa1 xl1.length xc1, .slice xa2 xl2.length xc2, .slice (some ⟨og41, 0, none⟩) xl3.length c37] 26, bx g1 #[.string xn, .slice xa1 xl1.length xc1, .slice xa2 xl2.length xc2, .slice xa3 xl3.length xc3] 26]) (by kernel_rfl) (Mem.stRow' M43 0 rfl (k * 6 + 4) (by show k * 6 + _ < (xl3.flatMap foD.cells).length; rw [flat_len foD]; show _ < _ * 6; omega) rfl (by kernel_rfl) (flat_set xl3 k ⟨cl, on, ⟨bm, bi⟩, va, ⟨pa, pc, pl⟩⟩ ⟨cl, on, ⟨bm, bi⟩, vv, ⟨pa, pc, pl⟩⟩ 4 _ hko (by decide) rfl).symm (by omega)) ?_
              intro w115 M116 hk117 shk117
              refine SL.nil ?_
              refine SC.next ?_
              refine SC.seq (by kernel_rfl) ?_
              refine SC.region [0, 1, 2] (by kernel_rfl) (by kernel_rfl) ?_
              refine SL.load (d := 52) (t := 26) (a := .pointer (some ⟨g1, 0, none⟩)) (v := .agg #[.string xn, .slice xa1 xl1.length xc1, .slice xa2 xl2.length xc2, .slice xa3 xl3.length xc3]) (by kernel_rfl) (M116.ldBox 2 rfl Try.underlying26 rfl (by kernel_rfl)) ?_
              refine SL.allocM (d := 9) (t := 26) (z := .agg #[.string ⟨#[]⟩, .slice none 0 0, .slice none 0 0, .slice none 0 0]) (cs := #[.string ⟨#[]⟩, .slice none 0 0, .slice none 0 0, .slice none 0 0]) M116 (by kernel_rfl) (by kernel_rfl) rfl ?_
              intro g118 w119 hb120 ⟨bg118, lg118⟩ M121
              refine SL.storeM (t := 26) (a := .pointer (some ⟨g118, 0, none⟩)) (v := .agg #[.string xn, .slice xa1 xl1.length xc1, .slice xa2 xl2.length xc2, .slice xa3 xl3.length xc3]) (L' := [bx g118 #[.string xn, .slice xa1 xl1.length xc1, .slice xa2 xl2.length xc2, .slice xa3 xl3.length xc3] 26, rw' (some ⟨og41, 0, none⟩) xl3.length c37 37 6 ((xl3.set k ⟨cl, on, ⟨bm, bi⟩, vv, ⟨pa, pc, pl⟩⟩).flatMap FO.cells), bx g29 #[.string xn, .slice xa1 xl1.length xc1, .slice xa2 xl2.length xc2, .slice (some ⟨og41, 0, none⟩) xl3.length c37] 26, bx g1 #[.string xn, .slice xa1 xl1.length xc1, .slice xa2 xl2.length xc2, .slice xa3 xl3.length xc3] 26]) (by kernel_rfl) (M121.stBox 0 rfl rfl (by kernel_rfl) rfl) ?_
              intro w122 M123 hk124 shk124
              refine SL.nil ?_
              refine SC.next ?_
              refine SC.seq (by kernel_rfl) ?_
              refine SC.region [0, 1, 2, 3, 4] (by kernel_rfl) (by kernel_rfl) ?_
              refine SL.run (d := 53) (v := .pointer (some ⟨g1, 3, none⟩)) (by kernel_rfl) ?_
              refine SL.load (d := 54) (t := 24) (a := .pointer (some ⟨g1, 3, none⟩)) (v := .slice xa3 xl3.length xc3) (by kernel_rfl) (M123.ldCell 3 rfl (j := 3) (v := .slice xa3 xl3.length xc3) rfl Try.underlying24 rfl) ?_
              refine SL.appendM (d := 55) (ts := [24, 24]) (ty := 24) (vs := [.slice none 0 0, .slice xa3 xl3.length xc3]) (k' := xl3.length) (L' := fun a125 c126 => [rw' a125 xl3.length c126 37 6 (xl3.flatMap FO.cells), bx g118 #[.string xn, .slice xa1 xl1.length xc1, .slice xa2 xl2.length xc2, .slice xa3 xl3.length xc3] 26, rw' (some ⟨og41, 0, none⟩) xl3.length c37 37 6 ((xl3.set k ⟨cl, on, ⟨bm, bi⟩, vv, ⟨pa, pc, pl⟩⟩).flatMap FO.cells), bx g29 #[.string xn, .slice xa1 xl1.length xc1, .slice xa2 xl2.length xc2, .slice (some ⟨og41, 0, none⟩) xl3.length c37] 26, bx g1 #[.string xn, .slice xa1 xl1.length xc1, .slice xa2 xl2.length xc2, .slice xa3 xl3.length xc3] 26]) (by kernel_rfl) (Mem.append (m := xl3.length) (news := (xl3.flatMap FO.cells)) (Mem.addNil (e := 37) (size := 6) M123) 0 rfl (ET.of Try.underlying24 (by kernel_rfl) (by decide) (by decide) : ET Try.prog 24 37 (.agg #[.int .i64 0, .string ⟨#[]⟩, .int .i64 0, .int .i64 0, .int .u32 0, .slice none 0 0]) 6 72) ((hx.bel M123.bel).objs.row : RdC w122 xa3 xl3.length xc3 (xl3.flatMap FO.cells)) (flat_len foD xl3) (obj_one xl3) (by omega) (by omega) (by omega)) ?_
              intro a125 c126 w127 M128 hk129
              obtain ⟨og130, rfl, _, _⟩ := own_open (M128.get 0 rfl : Go.World.ownsRow w127 0 37 6 (.slice a125 xl3.length c126) xl3.length (xl3.flatMap FO.cells)) (by omega)
              refine SL.run (d := 56) (v := .pointer (some ⟨g118, 3, none⟩)) (by kernel_rfl) ?_
              refine SL.storeM (t := 24) (a := .pointer (some ⟨g118, 3, none⟩)) (v := .slice (some ⟨og130, 0, none⟩) xl3.length c126) (L' := [rw' (some ⟨og130, 0, none⟩) xl3.length c126 37 6 (xl3.flatMap FO.cells), bx g118 #[.string xn, .slice xa1 xl1.length xc1, .slice xa2 xl2.length xc2, .slice (some ⟨og130, 0, none⟩) xl3.length c126] 26, rw' (some ⟨og41, 0, none⟩) xl3.length c37 37 6 ((xl3.set k ⟨cl, on, ⟨bm, bi⟩, vv, ⟨pa, pc, pl⟩⟩).flatMap FO.cells), bx g29 #[.string xn, .slice xa1 xl1.length xc1, .slice xa2 xl2.length xc2, .slice (some ⟨og41, 0, none⟩) xl3.length c37] 26, bx g1 #[.string xn, .slice xa1 xl1.length xc1, .slice xa2 xl2.length xc2, .slice xa3 xl3.length xc3] 26]) (by kernel_rfl) (M128.st1 1 rfl 3 rfl 24 rfl (by kernel_rfl) rfl) ?_
              intro w131 M132 hk133 shk133
              refine SL.nil ?_
              refine SC.next ?_
              refine SC.seq (by kernel_rfl) ?_
              refine SC.region [0, 1, 2, 3, 4, 5] (by kernel_rfl) (by kernel_rfl) ?_
              refine SL.run (d := 57) (v := .pointer (some ⟨g118, 3, none⟩)) (by kernel_rfl) ?_
              refine SL.load (d := 58) (t := 24) (a := .pointer (some ⟨g118, 3, none⟩)) (v := .slice (some ⟨og130, 0, none⟩) xl3.length c126) (by kernel_rfl) (M132.ldCell 1 rfl (j := 3) (v := .slice (some ⟨og130, 0, none⟩) xl3.length c126) rfl Try.underlying24 rfl) ?_
              refine SL.run (d := 59) (v := .int .i64 ((k : Nat) : Int)) (by kernel_rfl) ?_
              refine SL.index (d := 60) (t := 24) (e := 37) (b := og130) (o := 0) (len := xl3.length) (cap := c126) (sz := 6) (k := .i64) (m := ((k : Nat) : Int)) k (by kernel_rfl) Try.underlying24 (by kernel_rfl) rfl (by omega) ?_
              refine SL.run (d := 61) (v := .pointer (some ⟨og130, 0 + k * 6 + 1, none⟩)) (by kernel_rfl) ?_
              refine SL.storeM (t := 9) (a := .pointer (some ⟨og130, 0 + k * 6 + 1, none⟩)) (v := .string ⟨#[79, 116, 104, 101, 114, 119, 105, 115, 101]⟩) (L' := [rw' (some ⟨og130, 0, none⟩) xl3.length c126 37 6 ((xl3.set k ⟨cl, ⟨#[79, 116, 104, 101, 114, 119, 105, 115, 101]⟩, ⟨bm, bi⟩, va, ⟨pa, pc, pl⟩⟩).flatMap FO.cells), bx g118 #[.string xn, .slice xa1 xl1.length xc1, .slice xa2 xl2.length xc2, .slice (some ⟨og130, 0, none⟩) xl3.length c126] 26, rw' (some ⟨og41, 0, none⟩) xl3.length c37 37 6 ((xl3.set k ⟨cl, on, ⟨bm, bi⟩, vv, ⟨pa, pc, pl⟩⟩).flatMap FO.cells), bx g29 #[.string xn, .slice xa1 xl1.length xc1, .slice xa2 xl2.length xc2, .slice (some ⟨og41, 0, none⟩) xl3.length c37] 26, bx g1 #[.string xn, .slice xa1 xl1.length xc1, .slice xa2 xl2.length xc2, .slice xa3 xl3.length xc3] 26]) (by kernel_rfl) (Mem.stRow' M132 0 rfl (k * 6 + 1) (by show k * 6 + _ < (xl3.flatMap foD.cells).length; rw [flat_len foD]; show _ < _ * 6; omega) rfl (by kernel_rfl) (flat_set xl3 k ⟨cl, on, ⟨bm, bi⟩, va, ⟨pa, pc, pl⟩⟩ ⟨cl, ⟨#[79, 116, 104, 101, 114, 119, 105, 115, 101]⟩, ⟨bm, bi⟩, va, ⟨pa, pc, pl⟩⟩ 1 _ hko (by decide) rfl).symm (by omega)) ?_
              intro w134 M135 hk136 shk136
              refine SL.nil ?_
              refine SC.next ?_
              refine SC.keep (l' := [(3, .pointer (some ⟨g1, 0, none⟩)), (6, .bool false), (7, .pointer (some ⟨g29, 0, none⟩)), (8, .bool true), (9, .pointer (some ⟨g118, 0, none⟩))]) [3, 6, 7, 8, 9] (by kernel_rfl) ?_
              refine SC.seq (by kernel_rfl) ?_
              refine SC.region [0, 1, 2, 3, 4, 5, 6, 7] (by kernel_rfl) (by kernel_rfl) ?_
              refine SL.load (d := 63) (t := 26) (a := .pointer (some ⟨g1, 0, none⟩)) (v := .agg #[.string xn, .slice xa1 xl1.length xc1, .slice xa2 xl2.length xc2, .slice xa3 xl3.length xc3]) (by kernel_rfl) (M135.ldBox 4 rfl Try.underlying26 rfl (by kernel_rfl)) ?_
              refine SL.call (d := 64) (f := 11) (vs := [.agg #[.string xn, .slice xa1 xl1.length xc1, .slice xa2 xl2.length xc2, .slice xa3 xl3.length xc3], .string ⟨#[79, 116, 104, 101, 114, 119, 105, 115, 101]⟩]) (by kernel_rfl) (by kernel_rfl) (find_walk (⟨xn, ⟨xa1, xc1, xl1⟩, ⟨xa2, xc2, xl2⟩, ⟨xa3, xc3, xl3⟩⟩ : Fc) ⟨#[79, 116, 104, 101, 114, 119, 105, 115, 101]⟩ w134 (hx.bel M135.bel) hpm) ?_
              rintro e w137 ⟨hf, hb138⟩
              have M139 := M135.call hb138
              rcases found_cases hf with ⟨dl, qn, em, ei, ua, qa, qc, ql, ta, tc, tl, hq, hqn, htl, hrt, rfl⟩ | ⟨hno, rfl⟩
              · skip
                refine ⟨_, rfl, ?_⟩
                refine SL.run (d := 62) (v := .tuple #[.agg #[.int .i64 dl, .string qn, .int .i64 em, .int .i64 ei, .int .u32 ua, .slice ta tl.length tc], .bool true]) (by kernel_rfl) ?_
                refine SL.run (d := 65) (v := .agg #[.int .i64 dl, .string qn, .int .i64 em, .int .i64 ei, .int .u32 ua, .slice ta tl.length tc]) (by kernel_rfl) ?_
                refine SL.run (d := 66) (v := .bool true) (by kernel_rfl) ?_
                refine SL.allocM (d := 10) (t := 37) (z := .agg #[.int .i64 0, .string ⟨#[]⟩, .int .i64 0, .int .i64 0, .int .u32 0, .slice none 0 0]) (cs := #[.int .i64 0, .string ⟨#[]⟩, .int .i64 0, .int .i64 0, .int .u32 0, .slice none 0 0]) M139 (by kernel_rfl) (by kernel_rfl) rfl ?_
                intro g140 w141 hb142 ⟨bg140, lg140⟩ M143
                refine SL.storeM (t := 37) (a := .pointer (some ⟨g140, 0, none⟩)) (v := .agg #[.int .i64 dl, .string qn, .int .i64 em, .int .i64 ei, .int .u32 ua, .slice ta tl.length tc]) (L' := [bx g140 #[.int .i64 dl, .string qn, .int .i64 em, .int .i64 ei, .int .u32 ua, .slice ta tl.length tc] 37, rw' (some ⟨og130, 0, none⟩) xl3.length c126 37 6 ((xl3.set k ⟨cl, ⟨#[79, 116, 104, 101, 114, 119, 105, 115, 101]⟩, ⟨bm, bi⟩, va, ⟨pa, pc, pl⟩⟩).flatMap FO.cells), bx g118 #[.string xn, .slice xa1 xl1.length xc1, .slice xa2 xl2.length xc2, .slice (some ⟨og130, 0, none⟩) xl3.length c126] 26, rw' (some ⟨og41, 0, none⟩) xl3.length c37 37 6 ((xl3.set k ⟨cl, on, ⟨bm, bi⟩, vv, ⟨pa, pc, pl⟩⟩).flatMap FO.cells), bx g29 #[.string xn, .slice xa1 xl1.length xc1, .slice xa2 xl2.length xc2, .slice (some ⟨og41, 0, none⟩) xl3.length c37] 26, bx g1 #[.string xn, .slice xa1 xl1.length xc1, .slice xa2 xl2.length xc2, .slice xa3 xl3.length xc3] 26]) (by kernel_rfl) (M143.stBox 0 rfl rfl (by kernel_rfl) rfl) ?_
                intro w144 M145 hk146 shk146
                refine SL.run (d := 11) (v := .bool true) (by kernel_rfl) ?_
                refine SL.nil ?_
                refine SC.next ?_
                refine SC.seq (by kernel_rfl) ?_
                refine SC.region [0, 1, 2, 3, 4, 5, 6, 7, 8, 9, 10, 11, 12, 13, 14, 15, 16, 17, 18, 19, 20, 21, 22] (by kernel_rfl) (by kernel_rfl) ?_
                refine SL.load (d := 67) (t := 26) (a := .pointer (some ⟨g29, 0, none⟩)) (v := .agg #[.string xn, .slice xa1 xl1.length xc1, .slice xa2 xl2.length xc2, .slice (some ⟨og41, 0, none⟩) xl3.length c37]) (by kernel_rfl) (M145.ldBox 4 rfl Try.underlying26 rfl (by kernel_rfl)) ?_
                obtain ⟨mg, hmg⟩ : ∃ b, mayFace (withO (⟨xn, ⟨xa1, xc1, xl1⟩, ⟨xa2, xc2, xl2⟩, ⟨xa3, xc3, xl3⟩⟩ : Fc).d k (FO.d ⟨cl, on, ⟨bm, bi⟩, vv, ⟨pa, pc, pl⟩⟩)) = b := ⟨_, rfl⟩
                refine SL.call (d := 68) (f := 10) (vs := [.agg #[.string xn, .slice xa1 xl1.length xc1, .slice xa2 xl2.length xc2, .slice (some ⟨og41, 0, none⟩) xl3.length c37]]) (by kernel_rfl) (by kernel_rfl) (rmay_w (f := (⟨xn, ⟨xa1, xc1, xl1⟩, ⟨xa2, xc2, xl2⟩, ⟨xa3, xc3, xl3⟩⟩ : Fc)) (k := k) (o := ⟨cl, on, ⟨bm, bi⟩, vv, ⟨pa, pc, pl⟩⟩) hx M145.bel (M145.rd 3 rfl) ho1 hmg) ?_
                rintro e w147 ⟨rfl, hb148⟩
                refine ⟨_, rfl, ?_⟩
                have M149 := M145.call hb148
                cases mg
                · skip
                  refine SL.run (d := 69) (v := .bool true) (by kernel_rfl) ?_
                  refine SL.run (d := 70) (v := .bool true) (by kernel_rfl) ?_
                  refine SL.offs [4, 5, 6, 7, 8] (is := [9, 10, 11, 12, 13, 14, 15, 16, 17, 18, 19, 20, 21, 22]) rfl (by kernel_rfl) ?_
                  refine SL.pick (d := 76) (v := .bool true) (by kernel_rfl) ?_
                  refine SL.run (d := 77) (v := .bool true) (by kernel_rfl) ?_
                  refine SL.run (d := 78) (v := .bool true) (by kernel_rfl) ?_
                  refine SL.run (d := 79) (v := .bool true) (by kernel_rfl) ?_
                  refine SL.offs [13, 14, 15, 16] (is := [17, 18, 19, 20, 21, 22]) rfl (by kernel_rfl) ?_
                  refine SL.pick (d := 84) (v := .bool true) (by kernel_rfl) ?_
                  refine SL.pick (d := 85) (v := .bool true) (by kernel_rfl) ?_
                  refine SL.run (d := 86) (v := .bool true) (by kernel_rfl) ?_
                  refine SL.call (d := 87) (f := 8) (vs := []) (by kernel_rfl) (by kernel_rfl) (known20_walk w147) ?_
                  rintro e w150 ⟨rfl, hb151⟩
                  refine ⟨_, rfl, ?_⟩
                  have M152 := M149.call hb151
                  refine SL.pick (d := 88) (v := .bool true) (by kernel_rfl) ?_
                  refine SL.run (d := 6) (v := .bool true) (by kernel_rfl) ?_
                  refine SL.nil ?_
                  refine SC.next ?_
                  refine SC.keep (l' := [(6, .bool true)]) [6] (by kernel_rfl) ?_
                  refine SC.ret (by kernel_rfl) ?_
                  refine SQ.ret1 (t := 6) (v := .bool true) (.inr rfl) (by kernel_rfl) (by kernel_rfl) ?_
                  exact ⟨rfl, M152.bel⟩
                · skip
                  refine SL.run (d := 69) (v := .bool false) (by kernel_rfl) ?_
                  refine SL.run (d := 70) (v := .bool false) (by kernel_rfl) ?_
                  refine SL.load (d := 71) (t := 26) (a := .pointer (some ⟨g1, 0, none⟩)) (v := .agg #[.string xn, .slice xa1 xl1.length xc1, .slice xa2 xl2.length xc2, .slice xa3 xl3.length xc3]) (by kernel_rfl) (M149.ldBox 5 rfl Try.underlying26 rfl (by kernel_rfl)) ?_
                  refine SL.load (d := 72) (t := 26) (a := .pointer (some ⟨g29, 0, none⟩)) (v := .agg #[.string xn, .slice xa1 xl1.length xc1, .slice xa2 xl2.length xc2, .slice (some ⟨og41, 0, none⟩) xl3.length c37]) (by kernel_rfl) (M149.ldBox 4 rfl Try.underlying26 rfl (by kernel_rfl)) ?_
                  refine SL.call (d := 73) (f := 9) (vs := [.agg #[.string xn, .slice xa1 xl1.length xc1, .slice xa2 xl2.length xc2, .slice xa3 xl3.length xc3], .agg #[.string xn, .slice xa1 xl1.length xc1, .slice xa2 xl2.length xc2, .slice (some ⟨og41, 0, none⟩) xl3.length c37]]) (by kernel_rfl) (by kernel_rfl) (shows_w (f := (⟨xn, ⟨xa1, xc1, xl1⟩, ⟨xa2, xc2, xl2⟩, ⟨xa3, xc3, xl3⟩⟩ : Fc)) (k := k) (o := ⟨cl, on, ⟨bm, bi⟩, vv, ⟨pa, pc, pl⟩⟩) hx M149.bel (M149.rd 3 rfl) ho1 (m := false) (by rw [hcv hmg]; simp [‹¬ va = vv›])) ?_
                  rintro e w153 ⟨rfl, hb154⟩
                  refine ⟨_, rfl, ?_⟩
                  have M155 := M149.call hb154
                  refine SL.run (d := 74) (v := .bool true) (by kernel_rfl) ?_
                  refine SL.run (d := 75) (v := .bool true) (by kernel_rfl) ?_
                  refine SL.pick (d := 76) (v := .bool true) (by kernel_rfl) ?_
                  refine SL.run (d := 77) (v := .bool true) (by kernel_rfl) ?_
                  refine SL.run (d := 78) (v := .bool true) (by kernel_rfl) ?_
                  refine SL.run (d := 79) (v := .bool true) (by kernel_rfl) ?_
                  refine SL.offs [13, 14, 15, 16] (is := [17, 18, 19, 20, 21, 22]) rfl (by kernel_rfl) ?_
                  refine SL.pick (d := 84) (v := .bool true) (by kernel_rfl) ?_
                  refine SL.pick (d := 85) (v := .bool true) (by kernel_rfl) ?_
                  refine SL.run (d := 86) (v := .bool true) (by kernel_rfl) ?_
                  refine SL.call (d := 87) (f := 8) (vs := []) (by kernel_rfl) (by kernel_rfl) (known20_walk w153) ?_
                  rintro e w156 ⟨rfl, hb157⟩
                  refine ⟨_, rfl, ?_⟩
                  have M158 := M155.call hb157
                  refine SL.pick (d := 88) (v := .bool true) (by kernel_rfl) ?_
                  refine SL.run (d := 6) (v := .bool true) (by kernel_rfl) ?_
                  refine SL.nil ?_
                  refine SC.next ?_
                  refine SC.keep (l' := [(6, .bool true)]) [6] (by kernel_rfl) ?_
                  refine SC.ret (by kernel_rfl) ?_
                  refine SQ.ret1 (t := 6) (v := .bool true) (.inr rfl) (by kernel_rfl) (by kernel_rfl) ?_
                  exact ⟨rfl, M158.bel⟩
              · skip
                refine ⟨_, rfl, ?_⟩
                refine SL.run (d := 62) (v := .tuple #[.agg #[.int .i64 0, .string ⟨#[]⟩, .int .i64 0, .int .i64 0, .int .u32 0, .slice none 0 0], .bool false]) (by kernel_rfl) ?_
                refine SL.run (d := 65) (v := .agg #[.int .i64 0, .string ⟨#[]⟩, .int .i64 0, .int .i64 0, .int .u32 0, .slice none 0 0]) (by kernel_rfl) ?_
                refine SL.run (d := 66) (v := .bool false) (by kernel_rfl) ?_
                refine SL.allocM (d := 10) (t := 37) (z := .agg #[.int .i64 0, .string ⟨#[]⟩, .int .i64 0, .int .i64 0, .int .u32 0, .slice none 0 0]) (cs := #[.int .i64 0, .string ⟨#[]⟩, .int .i64 0, .int .i64 0, .int .u32 0, .slice none 0 0]) M139 (by kernel_rfl) (by kernel_rfl) rfl ?_
                intro g159 w160 hb161 ⟨bg159, lg159⟩ M162
                refine SL.storeM (t := 37) (a := .pointer (some ⟨g159, 0, none⟩)) (v := .agg #[.int .i64 0, .string ⟨#[]⟩, .int .i64 0, .int .i64 0, .int .u32 0, .slice none 0 0]) (L' := [bx g159 #[.int .i64 0, .string ⟨#[]⟩, .int .i64 0, .int .i64 0, .int .u32 0, .slice none 0 0] 37, rw' (some ⟨og130, 0, none⟩) xl3.length c126 37 6 ((xl3.set k ⟨cl, ⟨#[79, 116, 104, 101, 114, 119, 105, 115, 101]⟩, ⟨bm, bi⟩, va, ⟨pa, pc, pl⟩⟩).flatMap FO.cells), bx g118 #[.string xn, .slice xa1 xl1.length xc1, .slice xa2 xl2.length xc2, .slice (some ⟨og130, 0, none⟩) xl3.length c126] 26, rw' (some ⟨og41, 0, none⟩) xl3.length c37 37 6 ((xl3.set k ⟨cl, on, ⟨bm, bi⟩, vv, ⟨pa, pc, pl⟩⟩).flatMap FO.cells), bx g29 #[.string xn, .slice xa1 xl1.length xc1, .slice xa2 xl2.length xc2, .slice (some ⟨og41, 0, none⟩) xl3.length c37] 26, bx g1 #[.string xn, .slice xa1 xl1.length xc1, .slice xa2 xl2.length xc2, .slice xa3 xl3.length xc3] 26]) (by kernel_rfl) (M162.stBox 0 rfl rfl (by kernel_rfl) rfl) ?_
                intro w163 M164 hk165 shk165
                refine SL.run (d := 11) (v := .bool false) (by kernel_rfl) ?_
                refine SL.nil ?_
                refine SC.next ?_
                refine SC.seq (by kernel_rfl) ?_
                refine SC.region [0, 1, 2, 3, 4, 5, 6, 7, 8, 9, 10, 11, 12, 13, 14, 15, 16, 17, 18, 19, 20, 21, 22] (by kernel_rfl) (by kernel_rfl) ?_
                refine SL.load (d := 67) (t := 26) (a := .pointer (some ⟨g29, 0, none⟩)) (v := .agg #[.string xn, .slice xa1 xl1.length xc1, .slice xa2 xl2.length xc2, .slice (some ⟨og41, 0, none⟩) xl3.length c37]) (by kernel_rfl) (M164.ldBox 4 rfl Try.underlying26 rfl (by kernel_rfl)) ?_
                obtain ⟨mg, hmg⟩ : ∃ b, mayFace (withO (⟨xn, ⟨xa1, xc1, xl1⟩, ⟨xa2, xc2, xl2⟩, ⟨xa3, xc3, xl3⟩⟩ : Fc).d k (FO.d ⟨cl, on, ⟨bm, bi⟩, vv, ⟨pa, pc, pl⟩⟩)) = b := ⟨_, rfl⟩
                refine SL.call (d := 68) (f := 10) (vs := [.agg #[.string xn, .slice xa1 xl1.length xc1, .slice xa2 xl2.length xc2, .slice (some ⟨og41, 0, none⟩) xl3.length c37]]) (by kernel_rfl) (by kernel_rfl) (rmay_w (f := (⟨xn, ⟨xa1, xc1, xl1⟩, ⟨xa2, xc2, xl2⟩, ⟨xa3, xc3, xl3⟩⟩ : Fc)) (k := k) (o := ⟨cl, on, ⟨bm, bi⟩, vv, ⟨pa, pc, pl⟩⟩) hx M164.bel (M164.rd 3 rfl) ho1 hmg) ?_
                rintro e w166 ⟨rfl, hb167⟩
                refine ⟨_, rfl, ?_⟩
                have M168 := M164.call hb167
                cases mg
                · skip
                  refine SL.run (d := 69) (v := .bool true) (by kernel_rfl) ?_
                  refine SL.run (d := 70) (v := .bool true) (by kernel_rfl) ?_
                  refine SL.offs [4, 5, 6, 7, 8] (is := [9, 10, 11, 12, 13, 14, 15, 16, 17, 18, 19, 20, 21, 22]) rfl (by kernel_rfl) ?_
                  refine SL.pick (d := 76) (v := .bool true) (by kernel_rfl) ?_
                  refine SL.run (d := 77) (v := .bool true) (by kernel_rfl) ?_
                  refine SL.run (d := 78) (v := .bool false) (by kernel_rfl) ?_
                  refine SL.run (d := 79) (v := .bool false) (by kernel_rfl) ?_
                  refine SL.load (d := 80) (t := 26) (a := .pointer (some ⟨g1, 0, none⟩)) (v := .agg #[.string xn, .slice xa1 xl1.length xc1, .slice xa2 xl2.length xc2, .slice xa3 xl3.length xc3]) (by kernel_rfl) (M168.ldBox 5 rfl Try.underlying26 rfl (by kernel_rfl)) ?_
                  refine SL.load (d := 81) (t := 26) (a := .pointer (some ⟨g118, 0, none⟩)) (v := .agg #[.string xn, .slice xa1 xl1.length xc1, .slice xa2 xl2.length xc2, .slice (some ⟨og130, 0, none⟩) xl3.length c126]) (by kernel_rfl) (M168.ldBox 2 rfl Try.underlying26 rfl (by kernel_rfl)) ?_
                  refine SL.call (d := 82) (f := 9) (vs := [.agg #[.string xn, .slice xa1 xl1.length xc1, .slice xa2 xl2.length xc2, .slice xa3 xl3.length xc3], .agg #[.string xn, .slice xa1 xl1.length xc1, .slice xa2 xl2.length xc2, .slice (some ⟨og130, 0, none⟩) xl3.length c126]]) (by kernel_rfl) (by kernel_rfl) (shows_w (f := (⟨xn, ⟨xa1, xc1, xl1⟩, ⟨xa2, xc2, xl2⟩, ⟨xa3, xc3, xl3⟩⟩ : Fc)) (k := k) (o := ⟨cl, ⟨#[79, 116, 104, 101, 114, 119, 105, 115, 101]⟩, ⟨bm, bi⟩, va, ⟨pa, pc, pl⟩⟩) hx M168.bel (M168.rd 1 rfl) ho2 (hcn hno)) ?_
                  rintro e w169 ⟨rfl, hb170⟩
                  refine ⟨_, rfl, ?_⟩
                  have M171 := M168.call hb170
                  refine SL.run (d := 83) (v := .bool true) (by kernel_rfl) ?_
                  refine SL.pick (d := 84) (v := .bool true) (by kernel_rfl) ?_
                  refine SL.pick (d := 85) (v := .bool true) (by kernel_rfl) ?_
                  refine SL.run (d := 86) (v := .bool true) (by kernel_rfl) ?_
                  refine SL.call (d := 87) (f := 8) (vs := []) (by kernel_rfl) (by kernel_rfl) (known20_walk w169) ?_
                  rintro e w172 ⟨rfl, hb173⟩
                  refine ⟨_, rfl, ?_⟩
                  have M174 := M171.call hb173
                  refine SL.pick (d := 88) (v := .bool true) (by kernel_rfl) ?_
                  refine SL.run (d := 6) (v := .bool true) (by kernel_rfl) ?_
                  refine SL.nil ?_
                  refine SC.next ?_
                  refine SC.keep (l' := [(6, .bool true)]) [6] (by kernel_rfl) ?_
                  refine SC.ret (by kernel_rfl) ?_
                  refine SQ.ret1 (t := 6) (v := .bool true) (.inr rfl) (by kernel_rfl) (by kernel_rfl) ?_
                  exact ⟨rfl, M174.bel⟩
                · skip
                  refine SL.run (d := 69) (v := .bool false) (by kernel_rfl) ?_
                  refine SL.run (d := 70) (v := .bool false) (by kernel_rfl) ?_
                  refine SL.load (d := 71) (t := 26) (a := .pointer (some ⟨g1, 0, none⟩)) (v := .agg #[.string xn, .slice xa1 xl1.length xc1, .slice xa2 xl2.length xc2, .slice xa3 xl3.length xc3]) (by kernel_rfl) (M168.ldBox 5 rfl Try.underlying26 rfl (by kernel_rfl)) ?_
                  refine SL.load (d := 72) (t := 26) (a := .pointer (some ⟨g29, 0, none⟩)) (v := .agg #[.string xn, .slice xa1 xl1.length xc1, .slice xa2 xl2.length xc2, .slice (some ⟨og41, 0, none⟩) xl3.length c37]) (by kernel_rfl) (M168.ldBox 4 rfl Try.underlying26 rfl (by kernel_rfl)) ?_
                  refine SL.call (d := 73) (f := 9) (vs := [.agg #[.string xn, .slice xa1 xl1.length xc1, .slice xa2 xl2.length xc2, .slice xa3 xl3.length xc3], .agg #[.string xn, .slice xa1 xl1.length xc1, .slice xa2 xl2.length xc2, .slice (some ⟨og41, 0, none⟩) xl3.length c37]]) (by kernel_rfl) (by kernel_rfl) (shows_w (f := (⟨xn, ⟨xa1, xc1, xl1⟩, ⟨xa2, xc2, xl2⟩, ⟨xa3, xc3, xl3⟩⟩ : Fc)) (k := k) (o := ⟨cl, on, ⟨bm, bi⟩, vv, ⟨pa, pc, pl⟩⟩) hx M168.bel (M168.rd 3 rfl) ho1 (m := false) (by rw [hcv hmg]; simp [‹¬ va = vv›])) ?_
                  rintro e w175 ⟨rfl, hb176⟩
                  refine ⟨_, rfl, ?_⟩
                  have M177 := M168.call hb176
                  refine SL.run (d := 74) (v := .bool true) (by kernel_rfl) ?_
                  refine SL.run (d := 75) (v := .bool true) (by kernel_rfl) ?_
                  refine SL.pick (d := 76) (v := .bool true) (by kernel_rfl) ?_
                  refine SL.run (d := 77) (v := .bool true) (by kernel_rfl) ?_
                  refine SL.run (d := 78) (v := .bool false) (by kernel_rfl) ?_
                  refine SL.run (d := 79) (v := .bool false) (by kernel_rfl) ?_
                  refine SL.load (d := 80) (t := 26) (a := .pointer (some ⟨g1, 0, none⟩)) (v := .agg #[.string xn, .slice xa1 xl1.length xc1, .slice xa2 xl2.length xc2, .slice xa3 xl3.length xc3]) (by kernel_rfl) (M177.ldBox 5 rfl Try.underlying26 rfl (by kernel_rfl)) ?_
                  refine SL.load (d := 81) (t := 26) (a := .pointer (some ⟨g118, 0, none⟩)) (v := .agg #[.string xn, .slice xa1 xl1.length xc1, .slice xa2 xl2.length xc2, .slice (some ⟨og130, 0, none⟩) xl3.length c126]) (by kernel_rfl) (M177.ldBox 2 rfl Try.underlying26 rfl (by kernel_rfl)) ?_
                  refine SL.call (d := 82) (f := 9) (vs := [.agg #[.string xn, .slice xa1 xl1.length xc1, .slice xa2 xl2.length xc2, .slice xa3 xl3.length xc3], .agg #[.string xn, .slice xa1 xl1.length xc1, .slice xa2 xl2.length xc2, .slice (some ⟨og130, 0, none⟩) xl3.length c126]]) (by kernel_rfl) (by kernel_rfl) (shows_w (f := (⟨xn, ⟨xa1, xc1, xl1⟩, ⟨xa2, xc2, xl2⟩, ⟨xa3, xc3, xl3⟩⟩ : Fc)) (k := k) (o := ⟨cl, ⟨#[79, 116, 104, 101, 114, 119, 105, 115, 101]⟩, ⟨bm, bi⟩, va, ⟨pa, pc, pl⟩⟩) hx M177.bel (M177.rd 1 rfl) ho2 (hcn hno)) ?_
                  rintro e w178 ⟨rfl, hb179⟩
                  refine ⟨_, rfl, ?_⟩
                  have M180 := M177.call hb179
                  refine SL.run (d := 83) (v := .bool true) (by kernel_rfl) ?_
                  refine SL.pick (d := 84) (v := .bool true) (by kernel_rfl) ?_
                  refine SL.pick (d := 85) (v := .bool true) (by kernel_rfl) ?_
                  refine SL.run (d := 86) (v := .bool true) (by kernel_rfl) ?_
                  refine SL.call (d := 87) (f := 8) (vs := []) (by kernel_rfl) (by kernel_rfl) (known20_walk w178) ?_
                  rintro e w181 ⟨rfl, hb182⟩
                  refine ⟨_, rfl, ?_⟩
                  have M183 := M180.call hb182
                  refine SL.pick (d := 88) (v := .bool true) (by kernel_rfl) ?_
                  refine SL.run (d := 6) (v := .bool true) (by kernel_rfl) ?_
                  refine SL.nil ?_
                  refine SC.next ?_
                  refine SC.keep (l' := [(6, .bool true)]) [6] (by kernel_rfl) ?_
                  refine SC.ret (by kernel_rfl) ?_
                  refine SQ.ret1 (t := 6) (v := .bool true) (.inr rfl) (by kernel_rfl) (by kernel_rfl) ?_
                  exact ⟨rfl, M183.bel⟩
end Go.Proofs.Ytgcjdkgeiopllaa
