/- Walk: the law FaceShows. Printed by bin/gen_faceshowslaw.py. -/
import Derived.Test.YtgcjdkgeiopllaaRefS
import Derived.Test.YtgcjdkgeiopllaaFaceFew
import Derived.Test.YtgcjdkgeiopllaaFaceKnown20
import Derived.Test.YtgcjdkgeiopllaaFaceOpen
namespace Go.Proofs.Ytgcjdkgeiopllaa
set_option linter.unusedVariables false
set_option linter.unusedSimpArgs false
open Go.RowKit

noncomputable def meansB (a b : FD) (r s : Rf) : Bool := @decide (MeansP a b r s) (Classical.propDecidable _)
theorem meansB_iff {a b : FD} {r s : Rf} : meansB a b r s = true ↔ MeansP a b r s := by unfold meansB; exact @decide_eq_true_iff _ (Classical.propDecidable _)
theorem meansB_symm (a b : FD) (r s : Rf) : meansB b a s r = meansB a b r s := by rw [Bool.eq_iff_iff, meansB_iff, meansB_iff]; exact ⟨means_symm, means_symm⟩
theorem rshows_b (x y : Fc) (w : World) (hx : x.Rd w) (hy : y.Rd w) : Calls Try.prog 12 #[x.val, y.val] w fun e w' => e = .returned (.bool (showsB x.d y.d)) ∧ Below w.heap.size w w' :=
  (rshows_walk x y w hx hy).mono fun e w' ⟨R, h1, h2, h3⟩ => ⟨by rw [h1, show R = showsB x.d y.d from by rw [Bool.eq_iff_iff, h2, showsB_iff]], h3⟩
theorem rmeans_b (x y : Fc) (rm ri sm si : Int) (w : World) (hx : x.Rd w) (hy : y.Rd w) (hr : i64In rm ∧ i64In ri) (hs : i64In sm ∧ i64In si) :
    Calls Try.prog 13 #[x.val, .agg #[.int .i64 rm, .int .i64 ri], y.val, .agg #[.int .i64 sm, .int .i64 si]] w fun e w' => e = .returned (.bool (meansB x.d y.d ⟨rm, ri⟩ ⟨sm, si⟩)) ∧ Below w.heap.size w w' :=
  (rmeans_walk x y rm ri sm si w hx hy hr hs).mono fun e w' ⟨R, h1, h2, h3⟩ => ⟨by rw [h1, show R = meansB x.d y.d ⟨rm, ri⟩ ⟨sm, si⟩ from by rw [Bool.eq_iff_iff, h2, meansB_iff]], h3⟩
theorem fmeans_b (x y : Fc) (rm ri sm si : Int) (w : World) (hx : x.Rd w) (hy : y.Rd w) (hr : i64In rm ∧ i64In ri) (hs : i64In sm ∧ i64In si) :
    Calls Try.prog 14 #[x.val, .agg #[.int .i64 rm, .int .i64 ri], y.val, .agg #[.int .i64 sm, .int .i64 si]] w fun e w' => e = .returned (.bool (meansB x.d y.d ⟨rm, ri⟩ ⟨sm, si⟩)) ∧ Below w.heap.size w w' :=
  (fmeans_walk x y rm ri sm si w hx hy hr hs).mono fun e w' ⟨R, h1, h2, h3⟩ => ⟨by rw [h1, show R = meansB x.d y.d ⟨rm, ri⟩ ⟨sm, si⟩ from by rw [Bool.eq_iff_iff, h2, meansB_iff]], h3⟩
def Rf.In (r : Rf) : Prop := i64In r.mod ∧ i64In r.idx
section
variable {H : Type} {enc : TypeId × Value → H} {w : World} {base : Nat} {spare : Nat → Bool} {held : Bool}
theorem ref_leaves : leaves Try.prog 4 34 = some [3, 3] := by kernel_rfl
set_option maxRecDepth 100000 in
theorem open_ref {r : Reach} {b0 : Nat} {v : Value} {d : DataW H} {p : List MemPlace} (hv : Value.okWide Try.prog w r b0 34 v) (h : DataW.Trod enc Try.prog w base spare held 34 v d p) : ∃ o : Rf, v = o.val ∧ o.In := by
  obtain ⟨cs, rfl, hl⟩ := open_leaves ref_leaves Try.underlying34 hv h
  have hlen : cs.length = 2 := hl.1
  obtain ⟨x0, e0, r0⟩ := hl.int 0 (t := 3) rfl Try.underlying3
  obtain ⟨x1, e1, r1⟩ := hl.int 1 (t := 3) rfl Try.underlying3
  clear hl
  match cs, hlen with
  | [c0, c1], _ =>
    simp at e0 e1
    subst e0 e1
    exact ⟨⟨x0, x1⟩, rfl, bd_i64 r0, bd_i64 r1⟩
end

theorem faceShows_walk (x y : Fc) (r s : Rf) (w : World) (hx : x.Rd w) (hy : y.Rd w) (hr : r.In) (hs : s.In) : Calls Try.prog 5 #[x.val, y.val, r.val, s.val] w fun e w' => e = .returned (.bool true) ∧ Below w.heap.size w w' := by
  obtain ⟨fw, hfw⟩ : ∃ b, fewF x.d y.d = b := ⟨_, rfl⟩
  obtain ⟨rm, ri⟩ := r
  obtain ⟨sm, si⟩ := s
  obtain ⟨sh, hsh⟩ : ∃ b, showsB x.d y.d = b := ⟨_, rfl⟩
  obtain ⟨me, hme⟩ : ∃ b, meansB x.d y.d ⟨rm, ri⟩ ⟨sm, si⟩ = b := ⟨_, rfl⟩
  have hsh2 : showsB y.d x.d = sh := by rw [showsB_symm]; exact hsh
  have hme2 : meansB y.d x.d ⟨sm, si⟩ ⟨rm, ri⟩ = me := by rw [meansB_symm]; exact hme
  obtain ⟨xn, ⟨xa1, xc1, xl1⟩, ⟨xa2, xc2, xl2⟩, ⟨xa3, xc3, xl3⟩⟩ := x
  obtain ⟨yn, ⟨ya1, yc1, yl1⟩, ⟨ya2, yc2, yl2⟩, ⟨ya3, yc3, yl3⟩⟩ := y
  refine SC.enter (vs := [.agg #[.string xn, .slice xa1 xl1.length xc1, .slice xa2 xl2.length xc2, .slice xa3 xl3.length xc3], .agg #[.string yn, .slice ya1 yl1.length yc1, .slice ya2 yl2.length yc2, .slice ya3 yl3.length yc3], .agg #[.int .i64 rm, .int .i64 ri], .agg #[.int .i64 sm, .int .i64 si]]) (n := 57) (l := [(0, .agg #[.string xn, .slice xa1 xl1.length xc1, .slice xa2 xl2.length xc2, .slice xa3 xl3.length xc3]), (1, .agg #[.string yn, .slice ya1 yl1.length yc1, .slice ya2 yl2.length yc2, .slice ya3 yl3.length yc3]), (2, .agg #[.int .i64 rm, .int .i64 ri]), (3, .agg #[.int .i64 sm, .int .i64 si])]) Try.func5 (by kernel_rfl) (by kernel_rfl) (by kernel_rfl) (by kernel_rfl) ?_
  have M0 := Mem.start w
  refine SC.seq (by kernel_rfl) ?_
  refine SC.region [0, 1, 2, 3, 4] (by kernel_rfl) (by kernel_rfl) ?_
  refine SL.boxM (d := 4) (t := 26) (v := .agg #[.string xn, .slice xa1 xl1.length xc1, .slice xa2 xl2.length xc2, .slice xa3 xl3.length xc3]) (cs := #[.string xn, .slice xa1 xl1.length xc1, .slice xa2 xl2.length xc2, .slice xa3 xl3.length xc3]) M0 (by kernel_rfl) rfl ?_
  intro g1 w2 hb3 ⟨bg1, lg1⟩ M4
  refine SL.boxM (d := 5) (t := 26) (v := .agg #[.string yn, .slice ya1 yl1.length yc1, .slice ya2 yl2.length yc2, .slice ya3 yl3.length yc3]) (cs := #[.string yn, .slice ya1 yl1.length yc1, .slice ya2 yl2.length yc2, .slice ya3 yl3.length yc3]) M4 (by kernel_rfl) rfl ?_
  intro g5 w6 hb7 ⟨bg5, lg5⟩ M8
  refine SL.boxM (d := 6) (t := 34) (v := .agg #[.int .i64 rm, .int .i64 ri]) (cs := #[.int .i64 rm, .int .i64 ri]) M8 (by kernel_rfl) rfl ?_
  intro g9 w10 hb11 ⟨bg9, lg9⟩ M12
  refine SL.boxM (d := 7) (t := 34) (v := .agg #[.int .i64 sm, .int .i64 si]) (cs := #[.int .i64 sm, .int .i64 si]) M12 (by kernel_rfl) rfl ?_
  intro g13 w14 hb15 ⟨bg13, lg13⟩ M16
  refine SL.run (d := 8) (v := .bool false) (by kernel_rfl) ?_
  refine SL.nil ?_
  refine SC.next ?_
  refine SC.seq (by kernel_rfl) ?_
  refine SC.seq (by kernel_rfl) ?_
  refine SC.region [0, 1, 2, 3] (by kernel_rfl) (by kernel_rfl) ?_
  refine SL.load (d := 11) (t := 26) (a := .pointer (some ⟨g1, 0, none⟩)) (v := .agg #[.string xn, .slice xa1 xl1.length xc1, .slice xa2 xl2.length xc2, .slice xa3 xl3.length xc3]) (by kernel_rfl) (M16.ldBox 3 rfl Try.underlying26 rfl (by kernel_rfl)) ?_
  refine SL.load (d := 12) (t := 26) (a := .pointer (some ⟨g5, 0, none⟩)) (v := .agg #[.string yn, .slice ya1 yl1.length yc1, .slice ya2 yl2.length yc2, .slice ya3 yl3.length yc3]) (by kernel_rfl) (M16.ldBox 2 rfl Try.underlying26 rfl (by kernel_rfl)) ?_
  refine SL.call (d := 13) (f := 7) (vs := [.agg #[.string xn, .slice xa1 xl1.length xc1, .slice xa2 xl2.length xc2, .slice xa3 xl3.length xc3], .agg #[.string yn, .slice ya1 yl1.length yc1, .slice ya2 yl2.length yc2, .slice ya3 yl3.length yc3]]) (by kernel_rfl) (by kernel_rfl) (by have := few_walk (⟨xn, ⟨xa1, xc1, xl1⟩, ⟨xa2, xc2, xl2⟩, ⟨xa3, xc3, xl3⟩⟩ : Fc) (⟨yn, ⟨ya1, yc1, yl1⟩, ⟨ya2, yc2, yl2⟩, ⟨ya3, yc3, yl3⟩⟩ : Fc) w14 (hx.bel M16.bel) (hy.bel M16.bel); rw [hfw] at this; exact this) ?_
  rintro e w17 ⟨rfl, hb18⟩
  refine ⟨_, rfl, ?_⟩
  have M19 := M16.call hb18
  cases fw
  · skip
    refine SL.run (d := 14) (v := .bool true) (by kernel_rfl) ?_
    refine SL.nil ?_
    refine SC.next ?_
    refine SC.yes (by kernel_rfl) ?_
    refine SC.seq (by kernel_rfl) ?_
    refine SC.region [0, 1] (by kernel_rfl) (by kernel_rfl) ?_
    refine SL.call (d := 15) (f := 8) (vs := []) (by kernel_rfl) (by kernel_rfl) (known20_walk w17) ?_
    rintro e w20 ⟨rfl, hb21⟩
    refine ⟨_, rfl, ?_⟩
    have M22 := M19.call hb21
    refine SL.run (d := 8) (v := .bool true) (by kernel_rfl) ?_
    refine SL.nil ?_
    refine SC.next ?_
    refine SC.ret (by kernel_rfl) ?_
    refine SQ.seqExit (by nofun) ?_
    refine SQ.ret1 (t := 8) (v := .bool true) (.inr rfl) (by kernel_rfl) (by kernel_rfl) ?_
    exact ⟨rfl, M22.bel⟩
  · skip
    refine SL.run (d := 14) (v := .bool false) (by kernel_rfl) ?_
    refine SL.nil ?_
    refine SC.next ?_
    refine SC.no (by kernel_rfl) ?_
    refine SC.skip (by kernel_rfl) ?_
    refine SC.next ?_
    refine SC.seq (by kernel_rfl) ?_
    refine SC.mix [([0, 1, 3, 4, 5, 6], 2), ([], 7)] [8, 9] (by kernel_rfl) (by kernel_rfl) (by kernel_rfl) (PanOk.seq PanOk.body) ?_
    intro w23 hb24
    have M25 := M19.call hb24
    refine SM.step ?_
    refine SU.load (d := 16) (t := 26) (b := .pointer (some ⟨g1, 0, none⟩)) (v := .agg #[.string xn, .slice xa1 xl1.length xc1, .slice xa2 xl2.length xc2, .slice xa3 xl3.length xc3]) (by kernel_rfl) (fun y hy => ((M25.call hy).ldBox 3 rfl Try.underlying26 rfl (by kernel_rfl))) ?_
    refine SU.load (d := 17) (t := 26) (b := .pointer (some ⟨g5, 0, none⟩)) (v := .agg #[.string yn, .slice ya1 yl1.length yc1, .slice ya2 yl2.length yc2, .slice ya3 yl3.length yc3]) (by kernel_rfl) (fun y hy => ((M25.call hy).ldBox 2 rfl Try.underlying26 rfl (by kernel_rfl))) ?_
    refine SU.load (d := 19) (t := 26) (b := .pointer (some ⟨g1, 0, none⟩)) (v := .agg #[.string xn, .slice xa1 xl1.length xc1, .slice xa2 xl2.length xc2, .slice xa3 xl3.length xc3]) (by kernel_rfl) (fun y hy => ((M25.call hy).ldBox 3 rfl Try.underlying26 rfl (by kernel_rfl))) ?_
    refine SU.load (d := 20) (t := 34) (b := .pointer (some ⟨g9, 0, none⟩)) (v := .agg #[.int .i64 rm, .int .i64 ri]) (by kernel_rfl) (fun y hy => ((M25.call hy).ldBox 1 rfl Try.underlying34 rfl (by kernel_rfl))) ?_
    refine SU.load (d := 21) (t := 26) (b := .pointer (some ⟨g5, 0, none⟩)) (v := .agg #[.string yn, .slice ya1 yl1.length yc1, .slice ya2 yl2.length yc2, .slice ya3 yl3.length yc3]) (by kernel_rfl) (fun y hy => ((M25.call hy).ldBox 2 rfl Try.underlying26 rfl (by kernel_rfl))) ?_
    refine SU.load (d := 22) (t := 34) (b := .pointer (some ⟨g13, 0, none⟩)) (v := .agg #[.int .i64 sm, .int .i64 si]) (by kernel_rfl) (fun y hy => ((M25.call hy).ldBox 0 rfl Try.underlying34 rfl (by kernel_rfl))) ?_
    refine SU.go ?_
    refine SL.call (d := 18) (f := 12) (vs := [.agg #[.string xn, .slice xa1 xl1.length xc1, .slice xa2 xl2.length xc2, .slice xa3 xl3.length xc3], .agg #[.string yn, .slice ya1 yl1.length yc1, .slice ya2 yl2.length yc2, .slice ya3 yl3.length yc3]]) (by kernel_rfl) (by kernel_rfl) (by have := rshows_b (⟨xn, ⟨xa1, xc1, xl1⟩, ⟨xa2, xc2, xl2⟩, ⟨xa3, xc3, xl3⟩⟩ : Fc) (⟨yn, ⟨ya1, yc1, yl1⟩, ⟨ya2, yc2, yl2⟩, ⟨ya3, yc3, yl3⟩⟩ : Fc) w23 (hx.bel M25.bel) (hy.bel M25.bel); rw [hsh] at this; exact this) ?_
    rintro e w26 ⟨rfl, hb27⟩
    refine ⟨_, rfl, ?_⟩
    have M28 := M25.call hb27
    refine SL.nil ?_
    refine SM.back hb27 ?_
    refine SM.step ?_
    refine SU.go ?_
    refine SL.call (d := 23) (f := 13) (vs := [.agg #[.string xn, .slice xa1 xl1.length xc1, .slice xa2 xl2.length xc2, .slice xa3 xl3.length xc3], .agg #[.int .i64 rm, .int .i64 ri], .agg #[.string yn, .slice ya1 yl1.length yc1, .slice ya2 yl2.length yc2, .slice ya3 yl3.length yc3], .agg #[.int .i64 sm, .int .i64 si]]) (by kernel_rfl) (by kernel_rfl) (by have := rmeans_b (⟨xn, ⟨xa1, xc1, xl1⟩, ⟨xa2, xc2, xl2⟩, ⟨xa3, xc3, xl3⟩⟩ : Fc) (⟨yn, ⟨ya1, yc1, yl1⟩, ⟨ya2, yc2, yl2⟩, ⟨ya3, yc3, yl3⟩⟩ : Fc) rm ri sm si w26 (hx.bel M28.bel) (hy.bel M28.bel) hr hs; rw [hme] at this; exact this) ?_
    rintro e w29 ⟨rfl, hb30⟩
    refine ⟨_, rfl, ?_⟩
    have M31 := M28.call hb30
    refine SL.nil ?_
    refine SM.back hb30 ?_
    refine SM.last ?_
    refine SU.run (d := 9) (v := .bool sh) (fun y hy => by kernel_rfl) ?_
    refine SU.run (d := 10) (v := .bool me) (fun y hy => by kernel_rfl) ?_
    refine SU.done ?_
    refine SC.next ?_
    refine SC.keep (l' := [(4, .pointer (some ⟨g1, 0, none⟩)), (5, .pointer (some ⟨g5, 0, none⟩)), (6, .pointer (some ⟨g9, 0, none⟩)), (7, .pointer (some ⟨g13, 0, none⟩)), (8, .bool false), (9, .bool sh), (10, .bool me)]) [4, 5, 6, 7, 8, 9, 10] (by kernel_rfl) ?_
    refine SC.seq (by kernel_rfl) ?_
    refine SC.region [0, 1, 2, 3, 4, 5, 6, 7, 8, 9, 10, 11, 12, 13, 14, 15, 16, 17, 18, 19, 20, 21, 22, 23, 24, 25, 26, 27, 28, 29, 30, 31, 32, 33] (by kernel_rfl) (by kernel_rfl) ?_
    refine SL.load (d := 24) (t := 26) (a := .pointer (some ⟨g1, 0, none⟩)) (v := .agg #[.string xn, .slice xa1 xl1.length xc1, .slice xa2 xl2.length xc2, .slice xa3 xl3.length xc3]) (by kernel_rfl) (M31.ldBox 3 rfl Try.underlying26 rfl (by kernel_rfl)) ?_
    refine SL.load (d := 25) (t := 26) (a := .pointer (some ⟨g5, 0, none⟩)) (v := .agg #[.string yn, .slice ya1 yl1.length yc1, .slice ya2 yl2.length yc2, .slice ya3 yl3.length yc3]) (by kernel_rfl) (M31.ldBox 2 rfl Try.underlying26 rfl (by kernel_rfl)) ?_
    refine SL.call (d := 26) (f := 9) (vs := [.agg #[.string xn, .slice xa1 xl1.length xc1, .slice xa2 xl2.length xc2, .slice xa3 xl3.length xc3], .agg #[.string yn, .slice ya1 yl1.length yc1, .slice ya2 yl2.length yc2, .slice ya3 yl3.length yc3]]) (by kernel_rfl) (by kernel_rfl) (by have := shows_walk (⟨xn, ⟨xa1, xc1, xl1⟩, ⟨xa2, xc2, xl2⟩, ⟨xa3, xc3, xl3⟩⟩ : Fc) (⟨yn, ⟨ya1, yc1, yl1⟩, ⟨ya2, yc2, yl2⟩, ⟨ya3, yc3, yl3⟩⟩ : Fc) w29 (hx.bel M31.bel) (hy.bel M31.bel); rw [hsh] at this; exact this) ?_
    rintro e w32 ⟨rfl, hb33⟩
    refine ⟨_, rfl, ?_⟩
    have M34 := M31.call hb33
    refine SL.run (d := 27) (v := .bool sh) (by kernel_rfl) ?_
    cases sh
    · skip
      refine SL.run (d := 28) (v := .bool true) (by kernel_rfl) ?_
      refine SL.run (d := 29) (v := .bool true) (by kernel_rfl) ?_
      refine SL.load (d := 30) (t := 26) (a := .pointer (some ⟨g5, 0, none⟩)) (v := .agg #[.string yn, .slice ya1 yl1.length yc1, .slice ya2 yl2.length yc2, .slice ya3 yl3.length yc3]) (by kernel_rfl) (M34.ldBox 2 rfl Try.underlying26 rfl (by kernel_rfl)) ?_
      refine SL.load (d := 31) (t := 26) (a := .pointer (some ⟨g1, 0, none⟩)) (v := .agg #[.string xn, .slice xa1 xl1.length xc1, .slice xa2 xl2.length xc2, .slice xa3 xl3.length xc3]) (by kernel_rfl) (M34.ldBox 3 rfl Try.underlying26 rfl (by kernel_rfl)) ?_
      refine SL.call (d := 32) (f := 9) (vs := [.agg #[.string yn, .slice ya1 yl1.length yc1, .slice ya2 yl2.length yc2, .slice ya3 yl3.length yc3], .agg #[.string xn, .slice xa1 xl1.length xc1, .slice xa2 xl2.length xc2, .slice xa3 xl3.length xc3]]) (by kernel_rfl) (by kernel_rfl) (by have := shows_walk (⟨yn, ⟨ya1, yc1, yl1⟩, ⟨ya2, yc2, yl2⟩, ⟨ya3, yc3, yl3⟩⟩ : Fc) (⟨xn, ⟨xa1, xc1, xl1⟩, ⟨xa2, xc2, xl2⟩, ⟨xa3, xc3, xl3⟩⟩ : Fc) w32 (hy.bel M34.bel) (hx.bel M34.bel); rw [hsh2] at this; exact this) ?_
      rintro e w35 ⟨rfl, hb36⟩
      refine ⟨_, rfl, ?_⟩
      have M37 := M34.call hb36
      refine SL.run (d := 33) (v := .bool false) (by kernel_rfl) ?_
      refine SL.run (d := 34) (v := .bool true) (by kernel_rfl) ?_
      refine SL.pick (d := 35) (v := .bool true) (by kernel_rfl) ?_
      refine SL.run (d := 36) (v := .bool true) (by kernel_rfl) ?_
      refine SL.load (d := 37) (t := 26) (a := .pointer (some ⟨g1, 0, none⟩)) (v := .agg #[.string xn, .slice xa1 xl1.length xc1, .slice xa2 xl2.length xc2, .slice xa3 xl3.length xc3]) (by kernel_rfl) (M37.ldBox 3 rfl Try.underlying26 rfl (by kernel_rfl)) ?_
      refine SL.load (d := 38) (t := 34) (a := .pointer (some ⟨g9, 0, none⟩)) (v := .agg #[.int .i64 rm, .int .i64 ri]) (by kernel_rfl) (M37.ldBox 1 rfl Try.underlying34 rfl (by kernel_rfl)) ?_
      refine SL.load (d := 39) (t := 26) (a := .pointer (some ⟨g5, 0, none⟩)) (v := .agg #[.string yn, .slice ya1 yl1.length yc1, .slice ya2 yl2.length yc2, .slice ya3 yl3.length yc3]) (by kernel_rfl) (M37.ldBox 2 rfl Try.underlying26 rfl (by kernel_rfl)) ?_
      refine SL.load (d := 40) (t := 34) (a := .pointer (some ⟨g13, 0, none⟩)) (v := .agg #[.int .i64 sm, .int .i64 si]) (by kernel_rfl) (M37.ldBox 0 rfl Try.underlying34 rfl (by kernel_rfl)) ?_
      refine SL.call (d := 41) (f := 14) (vs := [.agg #[.string xn, .slice xa1 xl1.length xc1, .slice xa2 xl2.length xc2, .slice xa3 xl3.length xc3], .agg #[.int .i64 rm, .int .i64 ri], .agg #[.string yn, .slice ya1 yl1.length yc1, .slice ya2 yl2.length yc2, .slice ya3 yl3.length yc3], .agg #[.int .i64 sm, .int .i64 si]]) (by kernel_rfl) (by kernel_rfl) (by have := fmeans_b (⟨xn, ⟨xa1, xc1, xl1⟩, ⟨xa2, xc2, xl2⟩, ⟨xa3, xc3, xl3⟩⟩ : Fc) (⟨yn, ⟨ya1, yc1, yl1⟩, ⟨ya2, yc2, yl2⟩, ⟨ya3, yc3, yl3⟩⟩ : Fc) rm ri sm si w35 (hx.bel M37.bel) (hy.bel M37.bel) hr hs; rw [hme] at this; exact this) ?_
      rintro e w38 ⟨rfl, hb39⟩
      refine ⟨_, rfl, ?_⟩
      have M40 := M37.call hb39
      refine SL.run (d := 42) (v := .bool me) (by kernel_rfl) ?_
      cases me
      · skip
        refine SL.run (d := 43) (v := .bool true) (by kernel_rfl) ?_
        refine SL.pick (d := 44) (v := .bool true) (by kernel_rfl) ?_
        refine SL.run (d := 45) (v := .bool true) (by kernel_rfl) ?_
        refine SL.load (d := 46) (t := 26) (a := .pointer (some ⟨g5, 0, none⟩)) (v := .agg #[.string yn, .slice ya1 yl1.length yc1, .slice ya2 yl2.length yc2, .slice ya3 yl3.length yc3]) (by kernel_rfl) (M40.ldBox 2 rfl Try.underlying26 rfl (by kernel_rfl)) ?_
        refine SL.load (d := 47) (t := 34) (a := .pointer (some ⟨g13, 0, none⟩)) (v := .agg #[.int .i64 sm, .int .i64 si]) (by kernel_rfl) (M40.ldBox 0 rfl Try.underlying34 rfl (by kernel_rfl)) ?_
        refine SL.load (d := 48) (t := 26) (a := .pointer (some ⟨g1, 0, none⟩)) (v := .agg #[.string xn, .slice xa1 xl1.length xc1, .slice xa2 xl2.length xc2, .slice xa3 xl3.length xc3]) (by kernel_rfl) (M40.ldBox 3 rfl Try.underlying26 rfl (by kernel_rfl)) ?_
        refine SL.load (d := 49) (t := 34) (a := .pointer (some ⟨g9, 0, none⟩)) (v := .agg #[.int .i64 rm, .int .i64 ri]) (by kernel_rfl) (M40.ldBox 1 rfl Try.underlying34 rfl (by kernel_rfl)) ?_
        refine SL.call (d := 50) (f := 14) (vs := [.agg #[.string yn, .slice ya1 yl1.length yc1, .slice ya2 yl2.length yc2, .slice ya3 yl3.length yc3], .agg #[.int .i64 sm, .int .i64 si], .agg #[.string xn, .slice xa1 xl1.length xc1, .slice xa2 xl2.length xc2, .slice xa3 xl3.length xc3], .agg #[.int .i64 rm, .int .i64 ri]]) (by kernel_rfl) (by kernel_rfl) (by have := fmeans_b (⟨yn, ⟨ya1, yc1, yl1⟩, ⟨ya2, yc2, yl2⟩, ⟨ya3, yc3, yl3⟩⟩ : Fc) (⟨xn, ⟨xa1, xc1, xl1⟩, ⟨xa2, xc2, xl2⟩, ⟨xa3, xc3, xl3⟩⟩ : Fc) sm si rm ri w38 (hy.bel M40.bel) (hx.bel M40.bel) hs hr; rw [hme2] at this; exact this) ?_
        rintro e w41 ⟨rfl, hb42⟩
        refine ⟨_, rfl, ?_⟩
        have M43 := M40.call hb42
        refine SL.run (d := 51) (v := .bool false) (by kernel_rfl) ?_
        refine SL.run (d := 52) (v := .bool true) (by kernel_rfl) ?_
        refine SL.pick (d := 53) (v := .bool true) (by kernel_rfl) ?_
        refine SL.run (d := 54) (v := .bool true) (by kernel_rfl) ?_
        refine SL.call (d := 55) (f := 8) (vs := []) (by kernel_rfl) (by kernel_rfl) (known20_walk w41) ?_
        rintro e w44 ⟨rfl, hb45⟩
        refine ⟨_, rfl, ?_⟩
        have M46 := M43.call hb45
        refine SL.pick (d := 56) (v := .bool true) (by kernel_rfl) ?_
        refine SL.run (d := 8) (v := .bool true) (by kernel_rfl) ?_
        refine SL.nil ?_
        refine SC.next ?_
        refine SC.keep (l' := [(8, .bool true)]) [8] (by kernel_rfl) ?_
        refine SC.ret (by kernel_rfl) ?_
        refine SQ.ret1 (t := 8) (v := .bool true) (.inr rfl) (by kernel_rfl) (by kernel_rfl) ?_
        exact ⟨rfl, M46.bel⟩
      · skip
        refine SL.run (d := 43) (v := .bool true) (by kernel_rfl) ?_
        refine SL.pick (d := 44) (v := .bool true) (by kernel_rfl) ?_
        refine SL.run (d := 45) (v := .bool true) (by kernel_rfl) ?_
        refine SL.load (d := 46) (t := 26) (a := .pointer (some ⟨g5, 0, none⟩)) (v := .agg #[.string yn, .slice ya1 yl1.length yc1, .slice ya2 yl2.length yc2, .slice ya3 yl3.length yc3]) (by kernel_rfl) (M40.ldBox 2 rfl Try.underlying26 rfl (by kernel_rfl)) ?_
        refine SL.load (d := 47) (t := 34) (a := .pointer (some ⟨g13, 0, none⟩)) (v := .agg #[.int .i64 sm, .int .i64 si]) (by kernel_rfl) (M40.ldBox 0 rfl Try.underlying34 rfl (by kernel_rfl)) ?_
        refine SL.load (d := 48) (t := 26) (a := .pointer (some ⟨g1, 0, none⟩)) (v := .agg #[.string xn, .slice xa1 xl1.length xc1, .slice xa2 xl2.length xc2, .slice xa3 xl3.length xc3]) (by kernel_rfl) (M40.ldBox 3 rfl Try.underlying26 rfl (by kernel_rfl)) ?_
        refine SL.load (d := 49) (t := 34) (a := .pointer (some ⟨g9, 0, none⟩)) (v := .agg #[.int .i64 rm, .int .i64 ri]) (by kernel_rfl) (M40.ldBox 1 rfl Try.underlying34 rfl (by kernel_rfl)) ?_
        refine SL.call (d := 50) (f := 14) (vs := [.agg #[.string yn, .slice ya1 yl1.length yc1, .slice ya2 yl2.length yc2, .slice ya3 yl3.length yc3], .agg #[.int .i64 sm, .int .i64 si], .agg #[.string xn, .slice xa1 xl1.length xc1, .slice xa2 xl2.length xc2, .slice xa3 xl3.length xc3], .agg #[.int .i64 rm, .int .i64 ri]]) (by kernel_rfl) (by kernel_rfl) (by have := fmeans_b (⟨yn, ⟨ya1, yc1, yl1⟩, ⟨ya2, yc2, yl2⟩, ⟨ya3, yc3, yl3⟩⟩ : Fc) (⟨xn, ⟨xa1, xc1, xl1⟩, ⟨xa2, xc2, xl2⟩, ⟨xa3, xc3, xl3⟩⟩ : Fc) sm si rm ri w38 (hy.bel M40.bel) (hx.bel M40.bel) hs hr; rw [hme2] at this; exact this) ?_
        rintro e w47 ⟨rfl, hb48⟩
        refine ⟨_, rfl, ?_⟩
        have M49 := M40.call hb48
        refine SL.run (d := 51) (v := .bool true) (by kernel_rfl) ?_
        refine SL.run (d := 52) (v := .bool true) (by kernel_rfl) ?_
        refine SL.pick (d := 53) (v := .bool true) (by kernel_rfl) ?_
        refine SL.run (d := 54) (v := .bool true) (by kernel_rfl) ?_
        refine SL.call (d := 55) (f := 8) (vs := []) (by kernel_rfl) (by kernel_rfl) (known20_walk w47) ?_
        rintro e w50 ⟨rfl, hb51⟩
        refine ⟨_, rfl, ?_⟩
        have M52 := M49.call hb51
        refine SL.pick (d := 56) (v := .bool true) (by kernel_rfl) ?_
        refine SL.run (d := 8) (v := .bool true) (by kernel_rfl) ?_
        refine SL.nil ?_
        refine SC.next ?_
        refine SC.keep (l' := [(8, .bool true)]) [8] (by kernel_rfl) ?_
        refine SC.ret (by kernel_rfl) ?_
        refine SQ.ret1 (t := 8) (v := .bool true) (.inr rfl) (by kernel_rfl) (by kernel_rfl) ?_
        exact ⟨rfl, M52.bel⟩
    · skip
      refine SL.run (d := 28) (v := .bool true) (by kernel_rfl) ?_
      refine SL.run (d := 29) (v := .bool true) (by kernel_rfl) ?_
      refine SL.load (d := 30) (t := 26) (a := .pointer (some ⟨g5, 0, none⟩)) (v := .agg #[.string yn, .slice ya1 yl1.length yc1, .slice ya2 yl2.length yc2, .slice ya3 yl3.length yc3]) (by kernel_rfl) (M34.ldBox 2 rfl Try.underlying26 rfl (by kernel_rfl)) ?_
      refine SL.load (d := 31) (t := 26) (a := .pointer (some ⟨g1, 0, none⟩)) (v := .agg #[.string xn, .slice xa1 xl1.length xc1, .slice xa2 xl2.length xc2, .slice xa3 xl3.length xc3]) (by kernel_rfl) (M34.ldBox 3 rfl Try.underlying26 rfl (by kernel_rfl)) ?_
      refine SL.call (d := 32) (f := 9) (vs := [.agg #[.string yn, .slice ya1 yl1.length yc1, .slice ya2 yl2.length yc2, .slice ya3 yl3.length yc3], .agg #[.string xn, .slice xa1 xl1.length xc1, .slice xa2 xl2.length xc2, .slice xa3 xl3.length xc3]]) (by kernel_rfl) (by kernel_rfl) (by have := shows_walk (⟨yn, ⟨ya1, yc1, yl1⟩, ⟨ya2, yc2, yl2⟩, ⟨ya3, yc3, yl3⟩⟩ : Fc) (⟨xn, ⟨xa1, xc1, xl1⟩, ⟨xa2, xc2, xl2⟩, ⟨xa3, xc3, xl3⟩⟩ : Fc) w32 (hy.bel M34.bel) (hx.bel M34.bel); rw [hsh2] at this; exact this) ?_
      rintro e w53 ⟨rfl, hb54⟩
      refine ⟨_, rfl, ?_⟩
      have M55 := M34.call hb54
      refine SL.run (d := 33) (v := .bool true) (by kernel_rfl) ?_
      refine SL.run (d := 34) (v := .bool true) (by kernel_rfl) ?_
      refine SL.pick (d := 35) (v := .bool true) (by kernel_rfl) ?_
      refine SL.run (d := 36) (v := .bool true) (by kernel_rfl) ?_
      refine SL.load (d := 37) (t := 26) (a := .pointer (some ⟨g1, 0, none⟩)) (v := .agg #[.string xn, .slice xa1 xl1.length xc1, .slice xa2 xl2.length xc2, .slice xa3 xl3.length xc3]) (by kernel_rfl) (M55.ldBox 3 rfl Try.underlying26 rfl (by kernel_rfl)) ?_
      refine SL.load (d := 38) (t := 34) (a := .pointer (some ⟨g9, 0, none⟩)) (v := .agg #[.int .i64 rm, .int .i64 ri]) (by kernel_rfl) (M55.ldBox 1 rfl Try.underlying34 rfl (by kernel_rfl)) ?_
      refine SL.load (d := 39) (t := 26) (a := .pointer (some ⟨g5, 0, none⟩)) (v := .agg #[.string yn, .slice ya1 yl1.length yc1, .slice ya2 yl2.length yc2, .slice ya3 yl3.length yc3]) (by kernel_rfl) (M55.ldBox 2 rfl Try.underlying26 rfl (by kernel_rfl)) ?_
      refine SL.load (d := 40) (t := 34) (a := .pointer (some ⟨g13, 0, none⟩)) (v := .agg #[.int .i64 sm, .int .i64 si]) (by kernel_rfl) (M55.ldBox 0 rfl Try.underlying34 rfl (by kernel_rfl)) ?_
      refine SL.call (d := 41) (f := 14) (vs := [.agg #[.string xn, .slice xa1 xl1.length xc1, .slice xa2 xl2.length xc2, .slice xa3 xl3.length xc3], .agg #[.int .i64 rm, .int .i64 ri], .agg #[.string yn, .slice ya1 yl1.length yc1, .slice ya2 yl2.length yc2, .slice ya3 yl3.length yc3], .agg #[.int .i64 sm, .int .i64 si]]) (by kernel_rfl) (by kernel_rfl) (by have := fmeans_b (⟨xn, ⟨xa1, xc1, xl1⟩, ⟨xa2, xc2, xl2⟩, ⟨xa3, xc3, xl3⟩⟩ : Fc) (⟨yn, ⟨ya1, yc1, yl1⟩, ⟨ya2, yc2, yl2⟩, ⟨ya3, yc3, yl3⟩⟩ : Fc) rm ri sm si w53 (hx.bel M55.bel) (hy.bel M55.bel) hr hs; rw [hme] at this; exact this) ?_
      rintro e w56 ⟨rfl, hb57⟩
      refine ⟨_, rfl, ?_⟩
      have M58 := M55.call hb57
      refine SL.run (d := 42) (v := .bool me) (by kernel_rfl) ?_
      cases me
      · skip
        refine SL.run (d := 43) (v := .bool true) (by kernel_rfl) ?_
        refine SL.pick (d := 44) (v := .bool true) (by kernel_rfl) ?_
        refine SL.run (d := 45) (v := .bool true) (by kernel_rfl) ?_
        refine SL.load (d := 46) (t := 26) (a := .pointer (some ⟨g5, 0, none⟩)) (v := .agg #[.string yn, .slice ya1 yl1.length yc1, .slice ya2 yl2.length yc2, .slice ya3 yl3.length yc3]) (by kernel_rfl) (M58.ldBox 2 rfl Try.underlying26 rfl (by kernel_rfl)) ?_
        refine SL.load (d := 47) (t := 34) (a := .pointer (some ⟨g13, 0, none⟩)) (v := .agg #[.int .i64 sm, .int .i64 si]) (by kernel_rfl) (M58.ldBox 0 rfl Try.underlying34 rfl (by kernel_rfl)) ?_
        refine SL.load (d := 48) (t := 26) (a := .pointer (some ⟨g1, 0, none⟩)) (v := .agg #[.string xn, .slice xa1 xl1.length xc1, .slice xa2 xl2.length xc2, .slice xa3 xl3.length xc3]) (by kernel_rfl) (M58.ldBox 3 rfl Try.underlying26 rfl (by kernel_rfl)) ?_
        refine SL.load (d := 49) (t := 34) (a := .pointer (some ⟨g9, 0, none⟩)) (v := .agg #[.int .i64 rm, .int .i64 ri]) (by kernel_rfl) (M58.ldBox 1 rfl Try.underlying34 rfl (by kernel_rfl)) ?_
        refine SL.call (d := 50) (f := 14) (vs := [.agg #[.string yn, .slice ya1 yl1.length yc1, .slice ya2 yl2.length yc2, .slice ya3 yl3.length yc3], .agg #[.int .i64 sm, .int .i64 si], .agg #[.string xn, .slice xa1 xl1.length xc1, .slice xa2 xl2.length xc2, .slice xa3 xl3.length xc3], .agg #[.int .i64 rm, .int .i64 ri]]) (by kernel_rfl) (by kernel_rfl) (by have := fmeans_b (⟨yn, ⟨ya1, yc1, yl1⟩, ⟨ya2, yc2, yl2⟩, ⟨ya3, yc3, yl3⟩⟩ : Fc) (⟨xn, ⟨xa1, xc1, xl1⟩, ⟨xa2, xc2, xl2⟩, ⟨xa3, xc3, xl3⟩⟩ : Fc) sm si rm ri w56 (hy.bel M58.bel) (hx.bel M58.bel) hs hr; rw [hme2] at this; exact this) ?_
        rintro e w59 ⟨rfl, hb60⟩
        refine ⟨_, rfl, ?_⟩
        have M61 := M58.call hb60
        refine SL.run (d := 51) (v := .bool false) (by kernel_rfl) ?_
        refine SL.run (d := 52) (v := .bool true) (by kernel_rfl) ?_
        refine SL.pick (d := 53) (v := .bool true) (by kernel_rfl) ?_
        refine SL.run (d := 54) (v := .bool true) (by kernel_rfl) ?_
        refine SL.call (d := 55) (f := 8) (vs := []) (by kernel_rfl) (by kernel_rfl) (known20_walk w59) ?_
        rintro e w62 ⟨rfl, hb63⟩
        refine ⟨_, rfl, ?_⟩
        have M64 := M61.call hb63
        refine SL.pick (d := 56) (v := .bool true) (by kernel_rfl) ?_
        refine SL.run (d := 8) (v := .bool true) (by kernel_rfl) ?_
        refine SL.nil ?_
        refine SC.next ?_
        refine SC.keep (l' := [(8, .bool true)]) [8] (by kernel_rfl) ?_
        refine SC.ret (by kernel_rfl) ?_
        refine SQ.ret1 (t := 8) (v := .bool true) (.inr rfl) (by kernel_rfl) (by kernel_rfl) ?_
        exact ⟨rfl, M64.bel⟩
      · skip
        refine SL.run (d := 43) (v := .bool true) (by kernel_rfl) ?_
        refine SL.pick (d := 44) (v := .bool true) (by kernel_rfl) ?_
        refine SL.run (d := 45) (v := .bool true) (by kernel_rfl) ?_
        refine SL.load (d := 46) (t := 26) (a := .pointer (some ⟨g5, 0, none⟩)) (v := .agg #[.string yn, .slice ya1 yl1.length yc1, .slice ya2 yl2.length yc2, .slice ya3 yl3.length yc3]) (by kernel_rfl) (M58.ldBox 2 rfl Try.underlying26 rfl (by kernel_rfl)) ?_
        refine SL.load (d := 47) (t := 34) (a := .pointer (some ⟨g13, 0, none⟩)) (v := .agg #[.int .i64 sm, .int .i64 si]) (by kernel_rfl) (M58.ldBox 0 rfl Try.underlying34 rfl (by kernel_rfl)) ?_
        refine SL.load (d := 48) (t := 26) (a := .pointer (some ⟨g1, 0, none⟩)) (v := .agg #[.string xn, .slice xa1 xl1.length xc1, .slice xa2 xl2.length xc2, .slice xa3 xl3.length xc3]) (by kernel_rfl) (M58.ldBox 3 rfl Try.underlying26 rfl (by kernel_rfl)) ?_
        refine SL.load (d := 49) (t := 34) (a := .pointer (some ⟨g9, 0, none⟩)) (v := .agg #[.int .i64 rm, .int .i64 ri]) (by kernel_rfl) (M58.ldBox 1 rfl Try.underlying34 rfl (by kernel_rfl)) ?_
        refine SL.call (d := 50) (f := 14) (vs := [.agg #[.string yn, .slice ya1 yl1.length yc1, .slice ya2 yl2.length yc2, .slice ya3 yl3.length yc3], .agg #[.int .i64 sm, .int .i64 si], .agg #[.string xn, .slice xa1 xl1.length xc1, .slice xa2 xl2.length xc2, .slice xa3 xl3.length xc3], .agg #[.int .i64 rm, .int .i64 ri]]) (by kernel_rfl) (by kernel_rfl) (by have := fmeans_b (⟨yn, ⟨ya1, yc1, yl1⟩, ⟨ya2, yc2, yl2⟩, ⟨ya3, yc3, yl3⟩⟩ : Fc) (⟨xn, ⟨xa1, xc1, xl1⟩, ⟨xa2, xc2, xl2⟩, ⟨xa3, xc3, xl3⟩⟩ : Fc) sm si rm ri w56 (hy.bel M58.bel) (hx.bel M58.bel) hs hr; rw [hme2] at this; exact this) ?_
        rintro e w65 ⟨rfl, hb66⟩
        refine ⟨_, rfl, ?_⟩
        have M67 := M58.call hb66
        refine SL.run (d := 51) (v := .bool true) (by kernel_rfl) ?_
        refine SL.run (d := 52) (v := .bool true) (by kernel_rfl) ?_
        refine SL.pick (d := 53) (v := .bool true) (by kernel_rfl) ?_
        refine SL.run (d := 54) (v := .bool true) (by kernel_rfl) ?_
        refine SL.call (d := 55) (f := 8) (vs := []) (by kernel_rfl) (by kernel_rfl) (known20_walk w65) ?_
        rintro e w68 ⟨rfl, hb69⟩
        refine ⟨_, rfl, ?_⟩
        have M70 := M67.call hb69
        refine SL.pick (d := 56) (v := .bool true) (by kernel_rfl) ?_
        refine SL.run (d := 8) (v := .bool true) (by kernel_rfl) ?_
        refine SL.nil ?_
        refine SC.next ?_
        refine SC.keep (l' := [(8, .bool true)]) [8] (by kernel_rfl) ?_
        refine SC.ret (by kernel_rfl) ?_
        refine SQ.ret1 (t := 8) (v := .bool true) (.inr rfl) (by kernel_rfl) (by kernel_rfl) ?_
        exact ⟨rfl, M70.bel⟩
end Go.Proofs.Ytgcjdkgeiopllaa
