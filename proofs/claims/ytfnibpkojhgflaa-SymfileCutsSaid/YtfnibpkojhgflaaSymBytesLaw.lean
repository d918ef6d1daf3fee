/- Walk: the law SymfileBytes. Printed by bin/gen_sym8law.py. -/
import Derived.Test.YtfnibpkojhgflaaSymOf
import Derived.Test.YtfnibpkojhgflaaSymRef0
import Derived.Test.YtfnibpkojhgflaaSymFIn
import Derived.Test.YtfnibpkojhgflaaFaceOut
import Derived.Test.YtfnibpkojhgflaaFaceRSame
import Derived.Test.YtfnibpkojhgflaaFaceOpen
namespace Go.Proofs.Ytfnibpkojhgflaa
set_option linter.unusedVariables false
set_option linter.unusedSimpArgs false
open Go.RowKit
theorem bytesF_len {f : Fc} (hm : mayFace f.d = true) : 7 ≤ (bytesF f.d).length ∧ (bytesF f.d).length ≤ 1000000 := by
  have h1 := rest_len (small_of hm)
  have h2 := may_name hm
  have e : (nameB f.d.name).length = f.d.name.size + 1 := by unfold nameB; rw [List.length_cons, bytesI_len]
  have e2 : (wordB (Key.of (restF f.d))).length = 4 := rfl
  unfold bytesF
  simp only [List.length_append, e, e2, List.length_cons, List.length_nil]
  omega
theorem of_bytes {f : Fc} {wf : World} (hf : f.Rd wf) (hm : mayFace f.d = true) (a : Option Addr) (c : Nat) (w : World) (hr : RdI .u8 w a c (bytesF f.d)) :
    Calls Try.prog 17 #[.slice a (bytesF f.d).length c] w fun e w' => ∃ y : Fc, y.d = f.d ∧ e = .returned (.tuple #[y.val, .int .u32 (Key.of (restF f.d)), .int .i64 0]) ∧ y.Rd w' ∧ Below w.heap.size w w' := by
  have hl := bytesF_len hm
  have e0 := ofF_full hm (FIn.of hf hm)
  refine (of8_walk a c _ w hr (by omega) (flatA_of hr (by omega))).mono ?_
  rintro e w' ⟨(⟨h, _⟩ | ⟨y, k, h1, h2, h3⟩), hb⟩
  · rw [e0] at h; cases h
  · rw [e0] at h1
    simp only [Option.some.injEq, Prod.mk.injEq] at h1
    obtain ⟨h1, rfl⟩ := h1
    exact ⟨y, h1.symm, h2, h3, hb⟩

theorem bytesLaw_true (x : Fc) (w : World) (hx : x.Rd w) (hmy : mayFace x.d = true) : Calls Try.prog 8 #[x.val] w fun e w' => e = .returned (.bool true) ∧ Below w.heap.size w w' := by
  obtain ⟨mu, hmu⟩ : ∃ b, muchF x.d = b := ⟨_, rfl⟩
  have eo : outF x.d = bytesF x.d := by unfold outF; rw [hmy]; rfl
  have ek : keyF x.d = Key.of (restF x.d) := by unfold keyF; rw [hmy]; rfl
  have ee : errF x.d = 0 := by unfold errF; rw [hmy]; rfl
  obtain ⟨xn, ⟨xa1, xc1, xl1⟩, ⟨xa2, xc2, xl2⟩, ⟨xa3, xc3, xl3⟩⟩ := x
  refine SC.enter (vs := [.agg #[.string xn, .slice xa1 xl1.length xc1, .slice xa2 xl2.length xc2, .slice xa3 xl3.length xc3]]) (n := 89) (l := [(0, .agg #[.string xn, .slice xa1 xl1.length xc1, .slice xa2 xl2.length xc2, .slice xa3 xl3.length xc3])]) Try.func8 (by kernel_rfl) (by kernel_rfl) (by kernel_rfl) (by kernel_rfl) ?_
  have M0 := Mem.start w
  refine SC.seq (by kernel_rfl) ?_
  refine SC.region [0, 1] (by kernel_rfl) (by kernel_rfl) ?_
  refine SL.boxM (d := 1) (t := 26) (v := .agg #[.string xn, .slice xa1 xl1.length xc1, .slice xa2 xl2.length xc2, .slice xa3 xl3.length xc3]) (cs := #[.string xn, .slice xa1 xl1.length xc1, .slice xa2 xl2.length xc2, .slice xa3 xl3.length xc3]) M0 (by kernel_rfl) rfl ?_
  intro g1 w2 hb3 ⟨bg1, lg1⟩ M4
  refine SL.run (d := 2) (v := .bool false) (by kernel_rfl) ?_
  refine SL.nil ?_
  refine SC.next ?_
  refine SC.seq (by kernel_rfl) ?_
  refine SC.seq (by kernel_rfl) ?_
  refine SC.region [0, 1] (by kernel_rfl) (by kernel_rfl) ?_
  refine SL.load (d := 11) (t := 26) (a := .pointer (some ⟨g1, 0, none⟩)) (v := .agg #[.string xn, .slice xa1 xl1.length xc1, .slice xa2 xl2.length xc2, .slice xa3 xl3.length xc3]) (by kernel_rfl) (M4.ldBox 0 rfl Try.underlying26 rfl (by kernel_rfl)) ?_
  refine SL.call (d := 12) (f := 9) (vs := [.agg #[.string xn, .slice xa1 xl1.length xc1, .slice xa2 xl2.length xc2, .slice xa3 xl3.length xc3]]) (by kernel_rfl) (by kernel_rfl) (by have := muchF_walk (⟨xn, ⟨xa1, xc1, xl1⟩, ⟨xa2, xc2, xl2⟩, ⟨xa3, xc3, xl3⟩⟩ : Fc) w2 (hx.bel M4.bel); rw [hmu] at this; exact this) ?_
  rintro e w5 ⟨rfl, hb6⟩
  refine ⟨_, rfl, ?_⟩
  have M7 := M4.call hb6
  refine SL.nil ?_
  refine SC.next ?_
  cases mu
  · skip
    refine SC.no (by kernel_rfl) ?_
    refine SC.skip (by kernel_rfl) ?_
    refine SC.next ?_
    refine SC.seq (by kernel_rfl) ?_
    refine SC.region [0, 1, 2, 3, 4, 5, 6, 7, 8] (by kernel_rfl) (by kernel_rfl) ?_
    refine SL.load (d := 15) (t := 26) (a := .pointer (some ⟨g1, 0, none⟩)) (v := .agg #[.string xn, .slice xa1 xl1.length xc1, .slice xa2 xl2.length xc2, .slice xa3 xl3.length xc3]) (by kernel_rfl) (M7.ldBox 0 rfl Try.underlying26 rfl (by kernel_rfl)) ?_
    refine SL.call (d := 16) (f := 22) (vs := [.agg #[.string xn, .slice xa1 xl1.length xc1, .slice xa2 xl2.length xc2, .slice xa3 xl3.length xc3]]) (by kernel_rfl) (by kernel_rfl) (by have := bytes_walk (⟨xn, ⟨xa1, xc1, xl1⟩, ⟨xa2, xc2, xl2⟩, ⟨xa3, xc3, xl3⟩⟩ : Fc) w5 (hx.bel M7.bel); rw [eo, ek, ee] at this; exact this) ?_
    rintro e w8 ⟨a1, c1, rfl, hr1, hb9⟩
    refine ⟨_, rfl, ?_⟩
    have M10 := M7.call hb9
    have hB11 : Below w8.heap.size w8 w8 := Below.refl _ _
    refine SL.run (d := 14) (v := .tuple #[.slice a1 ((bytesF (⟨xn, ⟨xa1, xc1, xl1⟩, ⟨xa2, xc2, xl2⟩, ⟨xa3, xc3, xl3⟩⟩ : Fc).d).length) c1, .int .u32 (Key.of (restF (⟨xn, ⟨xa1, xc1, xl1⟩, ⟨xa2, xc2, xl2⟩, ⟨xa3, xc3, xl3⟩⟩ : Fc).d)), .int .i64 0]) (by kernel_rfl) ?_
    refine SL.run (d := 17) (v := .slice a1 ((bytesF (⟨xn, ⟨xa1, xc1, xl1⟩, ⟨xa2, xc2, xl2⟩, ⟨xa3, xc3, xl3⟩⟩ : Fc).d).length) c1) (by kernel_rfl) ?_
    refine SL.run (d := 18) (v := .int .u32 (Key.of (restF (⟨xn, ⟨xa1, xc1, xl1⟩, ⟨xa2, xc2, xl2⟩, ⟨xa3, xc3, xl3⟩⟩ : Fc).d))) (by kernel_rfl) ?_
    refine SL.run (d := 19) (v := .int .i64 0) (by kernel_rfl) ?_
    refine SL.run (d := 3) (v := .slice a1 ((bytesF (⟨xn, ⟨xa1, xc1, xl1⟩, ⟨xa2, xc2, xl2⟩, ⟨xa3, xc3, xl3⟩⟩ : Fc).d).length) c1) (by kernel_rfl) ?_
    refine SL.run (d := 4) (v := .int .u32 (Key.of (restF (⟨xn, ⟨xa1, xc1, xl1⟩, ⟨xa2, xc2, xl2⟩, ⟨xa3, xc3, xl3⟩⟩ : Fc).d))) (by kernel_rfl) ?_
    refine SL.run (d := 5) (v := .int .i64 0) (by kernel_rfl) ?_
    refine SL.nil ?_
    refine SC.next ?_
    refine SC.seq (by kernel_rfl) ?_
    refine SC.seq (by kernel_rfl) ?_
    refine SC.mix [([0, 2], 1), ([], 3)] [4] (by kernel_rfl) (by kernel_rfl) (by kernel_rfl) (PanOk.seq (PanOk.seq PanOk.body)) ?_
    intro w12 hb13
    have M14 := M10.call hb13
    replace hB11 := bel_then hB11 hb13
    refine SM.step ?_
    refine SU.load (d := 20) (t := 26) (b := .pointer (some ⟨g1, 0, none⟩)) (v := .agg #[.string xn, .slice xa1 xl1.length xc1, .slice xa2 xl2.length xc2, .slice xa3 xl3.length xc3]) (by kernel_rfl) (fun y hy => ((M14.call hy).ldBox 0 rfl Try.underlying26 rfl (by kernel_rfl))) ?_
    refine SU.load (d := 22) (t := 26) (b := .pointer (some ⟨g1, 0, none⟩)) (v := .agg #[.string xn, .slice xa1 xl1.length xc1, .slice xa2 xl2.length xc2, .slice xa3 xl3.length xc3]) (by kernel_rfl) (fun y hy => ((M14.call hy).ldBox 0 rfl Try.underlying26 rfl (by kernel_rfl))) ?_
    refine SU.go ?_
    refine SL.call (d := 21) (f := 10) (vs := [.agg #[.string xn, .slice xa1 xl1.length xc1, .slice xa2 xl2.length xc2, .slice xa3 xl3.length xc3]]) (by kernel_rfl) (by kernel_rfl) (by have := may_walk (⟨xn, ⟨xa1, xc1, xl1⟩, ⟨xa2, xc2, xl2⟩, ⟨xa3, xc3, xl3⟩⟩ : Fc) w12 (hx.bel M14.bel); rw [hmy] at this; exact this) ?_
    rintro e w15 ⟨rfl, hb16⟩
    refine ⟨_, rfl, ?_⟩
    have M17 := M14.call hb16
    replace hB11 := bel_then hB11 hb16
    refine SL.nil ?_
    refine SM.back hb16 ?_
    refine SM.step ?_
    refine SU.go ?_
    refine SL.call (d := 23) (f := 15) (vs := [.agg #[.string xn, .slice xa1 xl1.length xc1, .slice xa2 xl2.length xc2, .slice xa3 xl3.length xc3]]) (by kernel_rfl) (by kernel_rfl) (by have := rmay_walk (⟨xn, ⟨xa1, xc1, xl1⟩, ⟨xa2, xc2, xl2⟩, ⟨xa3, xc3, xl3⟩⟩ : Fc) w15 (hx.bel M17.bel); rw [hmy] at this; exact this) ?_
    rintro e w18 ⟨rfl, hb19⟩
    refine ⟨_, rfl, ?_⟩
    have M20 := M17.call hb19
    replace hB11 := bel_then hB11 hb19
    refine SL.nil ?_
    refine SM.back hb19 ?_
    refine SM.last ?_
    refine SU.run (d := 24) (v := .bool false) (fun y hy => by kernel_rfl) ?_
    refine SU.done ?_
    refine SC.next ?_
    refine SC.no (by kernel_rfl) ?_
    refine SC.skip (by kernel_rfl) ?_
    refine SC.next ?_
    refine SC.keep (l' := [(1, .pointer (some ⟨g1, 0, none⟩)), (2, .bool false), (3, .slice a1 ((bytesF (⟨xn, ⟨xa1, xc1, xl1⟩, ⟨xa2, xc2, xl2⟩, ⟨xa3, xc3, xl3⟩⟩ : Fc).d).length) c1), (4, .int .u32 (Key.of (restF (⟨xn, ⟨xa1, xc1, xl1⟩, ⟨xa2, xc2, xl2⟩, ⟨xa3, xc3, xl3⟩⟩ : Fc).d))), (5, .int .i64 0)]) [1, 2, 3, 4, 5] (by kernel_rfl) ?_
    refine SC.seq (by kernel_rfl) ?_
    refine SC.seq (by kernel_rfl) ?_
    refine SC.region [0, 1, 2] (by kernel_rfl) (by kernel_rfl) ?_
    refine SL.load (d := 25) (t := 26) (a := .pointer (some ⟨g1, 0, none⟩)) (v := .agg #[.string xn, .slice xa1 xl1.length xc1, .slice xa2 xl2.length xc2, .slice xa3 xl3.length xc3]) (by kernel_rfl) (M20.ldBox 0 rfl Try.underlying26 rfl (by kernel_rfl)) ?_
    refine SL.call (d := 26) (f := 15) (vs := [.agg #[.string xn, .slice xa1 xl1.length xc1, .slice xa2 xl2.length xc2, .slice xa3 xl3.length xc3]]) (by kernel_rfl) (by kernel_rfl) (by have := rmay_walk (⟨xn, ⟨xa1, xc1, xl1⟩, ⟨xa2, xc2, xl2⟩, ⟨xa3, xc3, xl3⟩⟩ : Fc) w18 (hx.bel M20.bel); rw [hmy] at this; exact this) ?_
    rintro e w21 ⟨rfl, hb22⟩
    refine ⟨_, rfl, ?_⟩
    have M23 := M20.call hb22
    replace hB11 := bel_then hB11 hb22
    refine SL.run (d := 27) (v := .bool false) (by kernel_rfl) ?_
    refine SL.nil ?_
    refine SC.next ?_
    refine SC.no (by kernel_rfl) ?_
    refine SC.skip (by kernel_rfl) ?_
    refine SC.next ?_
    refine SC.seq (by kernel_rfl) ?_
    refine SC.region [0, 1, 2, 3, 4, 5, 6] (by kernel_rfl) (by kernel_rfl) ?_
    refine SL.load (d := 43) (t := 26) (a := .pointer (some ⟨g1, 0, none⟩)) (v := .agg #[.string xn, .slice xa1 xl1.length xc1, .slice xa2 xl2.length xc2, .slice xa3 xl3.length xc3]) (by kernel_rfl) (M23.ldBox 0 rfl Try.underlying26 rfl (by kernel_rfl)) ?_
    refine SL.call (d := 44) (f := 19) (vs := [.agg #[.string xn, .slice xa1 xl1.length xc1, .slice xa2 xl2.length xc2, .slice xa3 xl3.length xc3]]) (by kernel_rfl) (by kernel_rfl) (rbytes_walk (⟨xn, ⟨xa1, xc1, xl1⟩, ⟨xa2, xc2, xl2⟩, ⟨xa3, xc3, xl3⟩⟩ : Fc) w21 (hx.bel M23.bel) (small_of hmy)) ?_
    rintro e w24 ⟨a2, c2, rfl, hr2, hb25⟩
    refine ⟨_, rfl, ?_⟩
    have M26 := M23.call hb25
    replace hB11 := bel_then hB11 hb25
    have hB27 : Below w24.heap.size w24 w24 := Below.refl _ _
    refine SL.run (d := 42) (v := .tuple #[.slice a2 ((bytesF (⟨xn, ⟨xa1, xc1, xl1⟩, ⟨xa2, xc2, xl2⟩, ⟨xa3, xc3, xl3⟩⟩ : Fc).d).length) c2, .int .u32 (Key.of (restF (⟨xn, ⟨xa1, xc1, xl1⟩, ⟨xa2, xc2, xl2⟩, ⟨xa3, xc3, xl3⟩⟩ : Fc).d))]) (by kernel_rfl) ?_
    refine SL.run (d := 45) (v := .slice a2 ((bytesF (⟨xn, ⟨xa1, xc1, xl1⟩, ⟨xa2, xc2, xl2⟩, ⟨xa3, xc3, xl3⟩⟩ : Fc).d).length) c2) (by kernel_rfl) ?_
    refine SL.run (d := 46) (v := .int .u32 (Key.of (restF (⟨xn, ⟨xa1, xc1, xl1⟩, ⟨xa2, xc2, xl2⟩, ⟨xa3, xc3, xl3⟩⟩ : Fc).d))) (by kernel_rfl) ?_
    refine SL.run (d := 6) (v := .slice a2 ((bytesF (⟨xn, ⟨xa1, xc1, xl1⟩, ⟨xa2, xc2, xl2⟩, ⟨xa3, xc3, xl3⟩⟩ : Fc).d).length) c2) (by kernel_rfl) ?_
    refine SL.run (d := 7) (v := .int .u32 (Key.of (restF (⟨xn, ⟨xa1, xc1, xl1⟩, ⟨xa2, xc2, xl2⟩, ⟨xa3, xc3, xl3⟩⟩ : Fc).d))) (by kernel_rfl) ?_
    refine SL.nil ?_
    refine SC.next ?_
    refine SC.seq (by kernel_rfl) ?_
    refine SC.region [0, 1, 2, 3, 4, 5, 6, 7, 8, 9] (by kernel_rfl) (by kernel_rfl) ?_
    refine SL.run (d := 48) (v := .slice a1 ((bytesF (⟨xn, ⟨xa1, xc1, xl1⟩, ⟨xa2, xc2, xl2⟩, ⟨xa3, xc3, xl3⟩⟩ : Fc).d).length) c1) (by kernel_rfl) ?_
    refine SL.call (d := 49) (f := 17) (vs := [.slice a1 ((bytesF (⟨xn, ⟨xa1, xc1, xl1⟩, ⟨xa2, xc2, xl2⟩, ⟨xa3, xc3, xl3⟩⟩ : Fc).d).length) c1]) (by kernel_rfl) (by kernel_rfl) (of_bytes hx hmy a1 c1 w24 (hr1.below hB11 (Nat.le_refl _))) ?_
    rintro e w28 ⟨⟨yn, ⟨ya1, yc1, yl1⟩, ⟨ya2, yc2, yl2⟩, ⟨ya3, yc3, yl3⟩⟩, hyd, rfl, hy, hb29⟩
    refine ⟨_, rfl, ?_⟩
    have M30 := M26.call hb29
    replace hB11 := bel_then hB11 hb29
    replace hB27 := bel_then hB27 hb29
    have hB31 : Below w28.heap.size w28 w28 := Below.refl _ _
    have hsame : sameF (⟨xn, ⟨xa1, xc1, xl1⟩, ⟨xa2, xc2, xl2⟩, ⟨xa3, xc3, xl3⟩⟩ : Fc).d (⟨yn, ⟨ya1, yc1, yl1⟩, ⟨ya2, yc2, yl2⟩, ⟨ya3, yc3, yl3⟩⟩ : Fc).d = true := by rw [hyd, sameF_self]; exact hmy
    refine SL.run (d := 47) (v := .tuple #[.agg #[.string yn, .slice ya1 yl1.length yc1, .slice ya2 yl2.length yc2, .slice ya3 yl3.length yc3], .int .u32 (Key.of (restF (⟨xn, ⟨xa1, xc1, xl1⟩, ⟨xa2, xc2, xl2⟩, ⟨xa3, xc3, xl3⟩⟩ : Fc).d)), .int .i64 0]) (by kernel_rfl) ?_
    refine SL.run (d := 50) (v := .agg #[.string yn, .slice ya1 yl1.length yc1, .slice ya2 yl2.length yc2, .slice ya3 yl3.length yc3]) (by kernel_rfl) ?_
    refine SL.run (d := 51) (v := .int .u32 (Key.of (restF (⟨xn, ⟨xa1, xc1, xl1⟩, ⟨xa2, xc2, xl2⟩, ⟨xa3, xc3, xl3⟩⟩ : Fc).d))) (by kernel_rfl) ?_
    refine SL.run (d := 52) (v := .int .i64 0) (by kernel_rfl) ?_
    refine SL.allocM (d := 8) (t := 26) (z := .agg #[.string ⟨#[]⟩, .slice none 0 0, .slice none 0 0, .slice none 0 0]) (cs := #[.string ⟨#[]⟩, .slice none 0 0, .slice none 0 0, .slice none 0 0]) M30 (by kernel_rfl) (by kernel_rfl) rfl ?_
    intro g32 w33 hb34 ⟨bg32, lg32⟩ M35
    have lo_hB11_g32 : w8.heap.size ≤ g32 := Nat.le_trans (Below.size hB11) bg32
    have lo_hB27_g32 : w24.heap.size ≤ g32 := Nat.le_trans (Below.size hB27) bg32
    have lo_hB31_g32 : w28.heap.size ≤ g32 := Nat.le_trans (Below.size hB31) bg32
    replace hB11 := bel_then hB11 hb34
    replace hB27 := bel_then hB27 hb34
    replace hB31 := bel_then hB31 hb34
    refine SL.storeM (t := 26) (a := .pointer (some ⟨g32, 0, none⟩)) (v := .agg #[.string yn, .slice ya1 yl1.length yc1, .slice ya2 yl2.length yc2, .slice ya3 yl3.length yc3]) (L' := [bx g32 #[.string yn, .slice ya1 yl1.length yc1, .slice ya2 yl2.length yc2, .slice ya3 yl3.length yc3] 26, bx g1 #[.string xn, .slice xa1 xl1.length xc1, .slice xa2 xl2.length xc2, .slice xa3 xl3.length xc3] 26]) (by kernel_rfl) (M35.stBox 0 rfl rfl (by kernel_rfl) rfl) ?_
    intro w36 M37 hk38 shk38
    replace hB11 := bel_keW hB11 hk38 (fun i e => by subst e; exact lo_hB11_g32)
    replace hB27 := bel_keW hB27 hk38 (fun i e => by subst e; exact lo_hB27_g32)
    replace hB31 := bel_keW hB31 hk38 (fun i e => by subst e; exact lo_hB31_g32)
    refine SL.run (d := 9) (v := .int .u32 (Key.of (restF (⟨xn, ⟨xa1, xc1, xl1⟩, ⟨xa2, xc2, xl2⟩, ⟨xa3, xc3, xl3⟩⟩ : Fc).d))) (by kernel_rfl) ?_
    refine SL.run (d := 10) (v := .int .i64 0) (by kernel_rfl) ?_
    refine SL.nil ?_
    refine SC.next ?_
    refine SC.keep (l' := [(1, .pointer (some ⟨g1, 0, none⟩)), (2, .bool false), (3, .slice a1 ((bytesF (⟨xn, ⟨xa1, xc1, xl1⟩, ⟨xa2, xc2, xl2⟩, ⟨xa3, xc3, xl3⟩⟩ : Fc).d).length) c1), (4, .int .u32 (Key.of (restF (⟨xn, ⟨xa1, xc1, xl1⟩, ⟨xa2, xc2, xl2⟩, ⟨xa3, xc3, xl3⟩⟩ : Fc).d))), (5, .int .i64 0), (6, .slice a2 ((bytesF (⟨xn, ⟨xa1, xc1, xl1⟩, ⟨xa2, xc2, xl2⟩, ⟨xa3, xc3, xl3⟩⟩ : Fc).d).length) c2), (7, .int .u32 (Key.of (restF (⟨xn, ⟨xa1, xc1, xl1⟩, ⟨xa2, xc2, xl2⟩, ⟨xa3, xc3, xl3⟩⟩ : Fc).d))), (8, .pointer (some ⟨g32, 0, none⟩)), (9, .int .u32 (Key.of (restF (⟨xn, ⟨xa1, xc1, xl1⟩, ⟨xa2, xc2, xl2⟩, ⟨xa3, xc3, xl3⟩⟩ : Fc).d))), (10, .int .i64 0)]) [1, 2, 3, 4, 5, 6, 7, 8, 9, 10] (by kernel_rfl) ?_
    refine SC.seq (by kernel_rfl) ?_
    refine SC.region [0, 1, 2, 3, 4, 5, 6, 7, 8, 9, 10, 11, 12, 13, 14, 15, 16, 17, 18, 19, 20, 21, 22, 23, 24, 25, 26, 27, 28, 29, 30, 31, 32, 33, 34, 35, 36] (by kernel_rfl) (by kernel_rfl) ?_
    refine SL.run (d := 53) (v := .int .i64 0) (by kernel_rfl) ?_
    refine SL.run (d := 54) (v := .bool true) (by kernel_rfl) ?_
    refine SL.run (d := 55) (v := .bool true) (by kernel_rfl) ?_
    refine SL.run (d := 56) (v := .slice a1 ((bytesF (⟨xn, ⟨xa1, xc1, xl1⟩, ⟨xa2, xc2, xl2⟩, ⟨xa3, xc3, xl3⟩⟩ : Fc).d).length) c1) (by kernel_rfl) ?_
    refine SL.ex (d := 57) (m := convert 46 9 (.slice a1 ((bytesF (⟨xn, ⟨xa1, xc1, xl1⟩, ⟨xa2, xc2, xl2⟩, ⟨xa3, xc3, xl3⟩⟩ : Fc).d).length) c1)) (v := .string (strOf (bytesF (⟨xn, ⟨xa1, xc1, xl1⟩, ⟨xa2, xc2, xl2⟩, ⟨xa3, xc3, xl3⟩⟩ : Fc).d))) (by kernel_rfl) (run_str_of (hr1.below hB11 (Nat.le_refl _)) Try.underlying46 Try.underlying5 Try.underlying9) ?_
    refine SL.run (d := 58) (v := .slice a2 ((bytesF (⟨xn, ⟨xa1, xc1, xl1⟩, ⟨xa2, xc2, xl2⟩, ⟨xa3, xc3, xl3⟩⟩ : Fc).d).length) c2) (by kernel_rfl) ?_
    refine SL.ex (d := 59) (m := convert 46 9 (.slice a2 ((bytesF (⟨xn, ⟨xa1, xc1, xl1⟩, ⟨xa2, xc2, xl2⟩, ⟨xa3, xc3, xl3⟩⟩ : Fc).d).length) c2)) (v := .string (strOf (bytesF (⟨xn, ⟨xa1, xc1, xl1⟩, ⟨xa2, xc2, xl2⟩, ⟨xa3, xc3, xl3⟩⟩ : Fc).d))) (by kernel_rfl) (run_str_of (hr2.below hB27 (Nat.le_refl _)) Try.underlying46 Try.underlying5 Try.underlying9) ?_
    refine SL.bool (d := 60) (x := ((strOf (bytesF (⟨xn, ⟨xa1, xc1, xl1⟩, ⟨xa2, xc2, xl2⟩, ⟨xa3, xc3, xl3⟩⟩ : Fc).d)).toList == (strOf (bytesF (⟨xn, ⟨xa1, xc1, xl1⟩, ⟨xa2, xc2, xl2⟩, ⟨xa3, xc3, xl3⟩⟩ : Fc).d)).toList)) (y := true) ((str_beq _ _).trans (decide_eq_true rfl)) (by kernel_rfl) ?_
    refine SL.pick (d := 61) (v := .bool true) (by kernel_rfl) ?_
    refine SL.run (d := 62) (v := .bool true) (by kernel_rfl) ?_
    refine SL.run (d := 63) (v := .int .u32 (Key.of (restF (⟨xn, ⟨xa1, xc1, xl1⟩, ⟨xa2, xc2, xl2⟩, ⟨xa3, xc3, xl3⟩⟩ : Fc).d))) (by kernel_rfl) ?_
    refine SL.run (d := 64) (v := .int .u32 (Key.of (restF (⟨xn, ⟨xa1, xc1, xl1⟩, ⟨xa2, xc2, xl2⟩, ⟨xa3, xc3, xl3⟩⟩ : Fc).d))) (by kernel_rfl) ?_
    refine SL.bool (d := 65) (x := ((Key.of (restF (⟨xn, ⟨xa1, xc1, xl1⟩, ⟨xa2, xc2, xl2⟩, ⟨xa3, xc3, xl3⟩⟩ : Fc).d)) == (Key.of (restF (⟨xn, ⟨xa1, xc1, xl1⟩, ⟨xa2, xc2, xl2⟩, ⟨xa3, xc3, xl3⟩⟩ : Fc).d)))) (y := true) ((int_beq _ _).trans (decide_eq_true rfl)) (by kernel_rfl) ?_
    refine SL.pick (d := 66) (v := .bool true) (by kernel_rfl) ?_
    refine SL.run (d := 67) (v := .bool true) (by kernel_rfl) ?_
    refine SL.run (d := 68) (v := .int .i64 0) (by kernel_rfl) ?_
    refine SL.run (d := 69) (v := .bool true) (by kernel_rfl) ?_
    refine SL.pick (d := 70) (v := .bool true) (by kernel_rfl) ?_
    refine SL.run (d := 71) (v := .bool true) (by kernel_rfl) ?_
    refine SL.run (d := 72) (v := .int .u32 (Key.of (restF (⟨xn, ⟨xa1, xc1, xl1⟩, ⟨xa2, xc2, xl2⟩, ⟨xa3, xc3, xl3⟩⟩ : Fc).d))) (by kernel_rfl) ?_
    refine SL.run (d := 73) (v := .int .u32 (Key.of (restF (⟨xn, ⟨xa1, xc1, xl1⟩, ⟨xa2, xc2, xl2⟩, ⟨xa3, xc3, xl3⟩⟩ : Fc).d))) (by kernel_rfl) ?_
    refine SL.bool (d := 74) (x := ((Key.of (restF (⟨xn, ⟨xa1, xc1, xl1⟩, ⟨xa2, xc2, xl2⟩, ⟨xa3, xc3, xl3⟩⟩ : Fc).d)) == (Key.of (restF (⟨xn, ⟨xa1, xc1, xl1⟩, ⟨xa2, xc2, xl2⟩, ⟨xa3, xc3, xl3⟩⟩ : Fc).d)))) (y := true) ((int_beq _ _).trans (decide_eq_true rfl)) (by kernel_rfl) ?_
    refine SL.pick (d := 75) (v := .bool true) (by kernel_rfl) ?_
    refine SL.run (d := 76) (v := .bool true) (by kernel_rfl) ?_
    refine SL.load (d := 77) (t := 26) (a := .pointer (some ⟨g1, 0, none⟩)) (v := .agg #[.string xn, .slice xa1 xl1.length xc1, .slice xa2 xl2.length xc2, .slice xa3 xl3.length xc3]) (by kernel_rfl) (M37.ldBox 1 rfl Try.underlying26 rfl (by kernel_rfl)) ?_
    refine SL.load (d := 78) (t := 26) (a := .pointer (some ⟨g32, 0, none⟩)) (v := .agg #[.string yn, .slice ya1 yl1.length yc1, .slice ya2 yl2.length yc2, .slice ya3 yl3.length yc3]) (by kernel_rfl) (M37.ldBox 0 rfl Try.underlying26 rfl (by kernel_rfl)) ?_
    refine SL.call (d := 79) (f := 14) (vs := [.agg #[.string xn, .slice xa1 xl1.length xc1, .slice xa2 xl2.length xc2, .slice xa3 xl3.length xc3], .agg #[.string yn, .slice ya1 yl1.length yc1, .slice ya2 yl2.length yc2, .slice ya3 yl3.length yc3]]) (by kernel_rfl) (by kernel_rfl) (by have := lawSame_walk (⟨xn, ⟨xa1, xc1, xl1⟩, ⟨xa2, xc2, xl2⟩, ⟨xa3, xc3, xl3⟩⟩ : Fc) (⟨yn, ⟨ya1, yc1, yl1⟩, ⟨ya2, yc2, yl2⟩, ⟨ya3, yc3, yl3⟩⟩ : Fc) w36 (hx.bel M37.bel) (hy.bel hB31); rw [hsame] at this; exact this) ?_
    rintro e w39 ⟨rfl, hb40⟩
    refine ⟨_, rfl, ?_⟩
    have M41 := M37.call hb40
    replace hB11 := bel_then hB11 hb40
    replace hB27 := bel_then hB27 hb40
    replace hB31 := bel_then hB31 hb40
    refine SL.pick (d := 80) (v := .bool true) (by kernel_rfl) ?_
    refine SL.run (d := 81) (v := .bool true) (by kernel_rfl) ?_
    refine SL.load (d := 82) (t := 26) (a := .pointer (some ⟨g1, 0, none⟩)) (v := .agg #[.string xn, .slice xa1 xl1.length xc1, .slice xa2 xl2.length xc2, .slice xa3 xl3.length xc3]) (by kernel_rfl) (M41.ldBox 1 rfl Try.underlying26 rfl (by kernel_rfl)) ?_
    refine SL.load (d := 83) (t := 26) (a := .pointer (some ⟨g32, 0, none⟩)) (v := .agg #[.string yn, .slice ya1 yl1.length yc1, .slice ya2 yl2.length yc2, .slice ya3 yl3.length yc3]) (by kernel_rfl) (M41.ldBox 0 rfl Try.underlying26 rfl (by kernel_rfl)) ?_
    refine SL.call (d := 84) (f := 13) (vs := [.agg #[.string xn, .slice xa1 xl1.length xc1, .slice xa2 xl2.length xc2, .slice xa3 xl3.length xc3], .agg #[.string yn, .slice ya1 yl1.length yc1, .slice ya2 yl2.length yc2, .slice ya3 yl3.length yc3]]) (by kernel_rfl) (by kernel_rfl) (by have := faceSame_walk (⟨xn, ⟨xa1, xc1, xl1⟩, ⟨xa2, xc2, xl2⟩, ⟨xa3, xc3, xl3⟩⟩ : Fc) (⟨yn, ⟨ya1, yc1, yl1⟩, ⟨ya2, yc2, yl2⟩, ⟨ya3, yc3, yl3⟩⟩ : Fc) w39 (hx.bel M41.bel) (hy.bel hB31); rw [hsame] at this; exact this) ?_
    rintro e w42 ⟨rfl, hb43⟩
    refine ⟨_, rfl, ?_⟩
    have M44 := M41.call hb43
    replace hB11 := bel_then hB11 hb43
    replace hB27 := bel_then hB27 hb43
    replace hB31 := bel_then hB31 hb43
    refine SL.pick (d := 85) (v := .bool true) (by kernel_rfl) ?_
    refine SL.run (d := 86) (v := .bool true) (by kernel_rfl) ?_
    refine SL.call (d := 87) (f := 11) (vs := []) (by kernel_rfl) (by kernel_rfl) (known_walk w42) ?_
    rintro e w45 ⟨rfl, hb46⟩
    refine ⟨_, rfl, ?_⟩
    have M47 := M44.call hb46
    replace hB11 := bel_then hB11 hb46
    replace hB27 := bel_then hB27 hb46
    replace hB31 := bel_then hB31 hb46
    refine SL.pick (d := 88) (v := .bool true) (by kernel_rfl) ?_
    refine SL.run (d := 2) (v := .bool true) (by kernel_rfl) ?_
    refine SL.nil ?_
    refine SC.next ?_
    refine SC.keep (l' := [(2, .bool true)]) [2] (by kernel_rfl) ?_
    refine SC.ret (by kernel_rfl) ?_
    refine SQ.ret1 (t := 2) (v := .bool true) (.inr rfl) (by kernel_rfl) (by kernel_rfl) ?_
    exact ⟨rfl, M47.bel⟩
  · skip
    refine SC.yes (by kernel_rfl) ?_
    refine SC.seq (by kernel_rfl) ?_
    refine SC.region [0, 1] (by kernel_rfl) (by kernel_rfl) ?_
    refine SL.call (d := 13) (f := 11) (vs := []) (by kernel_rfl) (by kernel_rfl) (known_walk w5) ?_
    rintro e w48 ⟨rfl, hb49⟩
    refine ⟨_, rfl, ?_⟩
    have M50 := M7.call hb49
    refine SL.run (d := 2) (v := .bool true) (by kernel_rfl) ?_
    refine SL.nil ?_
    refine SC.next ?_
    refine SC.ret (by kernel_rfl) ?_
    refine SQ.seqExit (by nofun) ?_
    refine SQ.ret1 (t := 2) (v := .bool true) (.inr rfl) (by kernel_rfl) (by kernel_rfl) ?_
    exact ⟨rfl, M50.bel⟩
theorem bytesLaw_false (x : Fc) (w : World) (hx : x.Rd w) (hmy : mayFace x.d = false) : Calls Try.prog 8 #[x.val] w fun e w' => e = .returned (.bool true) ∧ Below w.heap.size w w' := by
  obtain ⟨mu, hmu⟩ : ∃ b, muchF x.d = b := ⟨_, rfl⟩
  have eo : outF x.d = [] := by unfold outF; rw [hmy]; rfl
  have ek : keyF x.d = 0 := by unfold keyF; rw [hmy]; rfl
  have ee : errF x.d = 2 := by unfold errF; rw [hmy]; rfl
  obtain ⟨xn, ⟨xa1, xc1, xl1⟩, ⟨xa2, xc2, xl2⟩, ⟨xa3, xc3, xl3⟩⟩ := x
  refine SC.enter (vs := [.agg #[.string xn, .slice xa1 xl1.length xc1, .slice xa2 xl2.length xc2, .slice xa3 xl3.length xc3]]) (n := 89) (l := [(0, .agg #[.string xn, .slice xa1 xl1.length xc1, .slice xa2 xl2.length xc2, .slice xa3 xl3.length xc3])]) Try.func8 (by kernel_rfl) (by kernel_rfl) (by kernel_rfl) (by kernel_rfl) ?_
  have M0 := Mem.start w
  refine SC.seq (by kernel_rfl) ?_
  refine SC.region [0, 1] (by kernel_rfl) (by kernel_rfl) ?_
  refine SL.boxM (d := 1) (t := 26) (v := .agg #[.string xn, .slice xa1 xl1.length xc1, .slice xa2 xl2.length xc2, .slice xa3 xl3.length xc3]) (cs := #[.string xn, .slice xa1 xl1.length xc1, .slice xa2 xl2.length xc2, .slice xa3 xl3.length xc3]) M0 (by kernel_rfl) rfl ?_
  intro g1 w2 hb3 ⟨bg1, lg1⟩ M4
  refine SL.run (d := 2) (v := .bool false) (by kernel_rfl) ?_
  refine SL.nil ?_
  refine SC.next ?_
  refine SC.seq (by kernel_rfl) ?_
  refine SC.seq (by kernel_rfl) ?_
  refine SC.region [0, 1] (by kernel_rfl) (by kernel_rfl) ?_
  refine SL.load (d := 11) (t := 26) (a := .pointer (some ⟨g1, 0, none⟩)) (v := .agg #[.string xn, .slice xa1 xl1.length xc1, .slice xa2 xl2.length xc2, .slice xa3 xl3.length xc3]) (by kernel_rfl) (M4.ldBox 0 rfl Try.underlying26 rfl (by kernel_rfl)) ?_
  refine SL.call (d := 12) (f := 9) (vs := [.agg #[.string xn, .slice xa1 xl1.length xc1, .slice xa2 xl2.length xc2, .slice xa3 xl3.length xc3]]) (by kernel_rfl) (by kernel_rfl) (by have := muchF_walk (⟨xn, ⟨xa1, xc1, xl1⟩, ⟨xa2, xc2, xl2⟩, ⟨xa3, xc3, xl3⟩⟩ : Fc) w2 (hx.bel M4.bel); rw [hmu] at this; exact this) ?_
  rintro e w5 ⟨rfl, hb6⟩
  refine ⟨_, rfl, ?_⟩
  have M7 := M4.call hb6
  refine SL.nil ?_
  refine SC.next ?_
  cases mu
  · skip
    refine SC.no (by kernel_rfl) ?_
    refine SC.skip (by kernel_rfl) ?_
    refine SC.next ?_
    refine SC.seq (by kernel_rfl) ?_
    refine SC.region [0, 1, 2, 3, 4, 5, 6, 7, 8] (by kernel_rfl) (by kernel_rfl) ?_
    refine SL.load (d := 15) (t := 26) (a := .pointer (some ⟨g1, 0, none⟩)) (v := .agg #[.string xn, .slice xa1 xl1.length xc1, .slice xa2 xl2.length xc2, .slice xa3 xl3.length xc3]) (by kernel_rfl) (M7.ldBox 0 rfl Try.underlying26 rfl (by kernel_rfl)) ?_
    refine SL.call (d := 16) (f := 22) (vs := [.agg #[.string xn, .slice xa1 xl1.length xc1, .slice xa2 xl2.length xc2, .slice xa3 xl3.length xc3]]) (by kernel_rfl) (by kernel_rfl) (by have := bytes_walk (⟨xn, ⟨xa1, xc1, xl1⟩, ⟨xa2, xc2, xl2⟩, ⟨xa3, xc3, xl3⟩⟩ : Fc) w5 (hx.bel M7.bel); rw [eo, ek, ee] at this; exact this) ?_
    rintro e w8 ⟨a1, c1, rfl, hr1, hb9⟩
    refine ⟨_, rfl, ?_⟩
    have M10 := M7.call hb9
    have hB11 : Below w8.heap.size w8 w8 := Below.refl _ _
    refine SL.run (d := 14) (v := .tuple #[.slice a1 0 c1, .int .u32 0, .int .i64 2]) (by kernel_rfl) ?_
    refine SL.run (d := 17) (v := .slice a1 0 c1) (by kernel_rfl) ?_
    refine SL.run (d := 18) (v := .int .u32 0) (by kernel_rfl) ?_
    refine SL.run (d := 19) (v := .int .i64 2) (by kernel_rfl) ?_
    refine SL.run (d := 3) (v := .slice a1 0 c1) (by kernel_rfl) ?_
    refine SL.run (d := 4) (v := .int .u32 0) (by kernel_rfl) ?_
    refine SL.run (d := 5) (v := .int .i64 2) (by kernel_rfl) ?_
    refine SL.nil ?_
    refine SC.next ?_
    refine SC.seq (by kernel_rfl) ?_
    refine SC.seq (by kernel_rfl) ?_
    refine SC.mix [([0, 2], 1), ([], 3)] [4] (by kernel_rfl) (by kernel_rfl) (by kernel_rfl) (PanOk.seq (PanOk.seq PanOk.body)) ?_
    intro w12 hb13
    have M14 := M10.call hb13
    replace hB11 := bel_then hB11 hb13
    refine SM.step ?_
    refine SU.load (d := 20) (t := 26) (b := .pointer (some ⟨g1, 0, none⟩)) (v := .agg #[.string xn, .slice xa1 xl1.length xc1, .slice xa2 xl2.length xc2, .slice xa3 xl3.length xc3]) (by kernel_rfl) (fun y hy => ((M14.call hy).ldBox 0 rfl Try.underlying26 rfl (by kernel_rfl))) ?_
    refine SU.load (d := 22) (t := 26) (b := .pointer (some ⟨g1, 0, none⟩)) (v := .agg #[.string xn, .slice xa1 xl1.length xc1, .slice xa2 xl2.length xc2, .slice xa3 xl3.length xc3]) (by kernel_rfl) (fun y hy => ((M14.call hy).ldBox 0 rfl Try.underlying26 rfl (by kernel_rfl))) ?_
    refine SU.go ?_
    refine SL.call (d := 21) (f := 10) (vs := [.agg #[.string xn, .slice xa1 xl1.length xc1, .slice xa2 xl2.length xc2, .slice xa3 xl3.length xc3]]) (by kernel_rfl) (by kernel_rfl) (by have := may_walk (⟨xn, ⟨xa1, xc1, xl1⟩, ⟨xa2, xc2, xl2⟩, ⟨xa3, xc3, xl3⟩⟩ : Fc) w12 (hx.bel M14.bel); rw [hmy] at this; exact this) ?_
    rintro e w15 ⟨rfl, hb16⟩
    refine ⟨_, rfl, ?_⟩
    have M17 := M14.call hb16
    replace hB11 := bel_then hB11 hb16
    refine SL.nil ?_
    refine SM.back hb16 ?_
    refine SM.step ?_
    refine SU.go ?_
    refine SL.call (d := 23) (f := 15) (vs := [.agg #[.string xn, .slice xa1 xl1.length xc1, .slice xa2 xl2.length xc2, .slice xa3 xl3.length xc3]]) (by kernel_rfl) (by kernel_rfl) (by have := rmay_walk (⟨xn, ⟨xa1, xc1, xl1⟩, ⟨xa2, xc2, xl2⟩, ⟨xa3, xc3, xl3⟩⟩ : Fc) w15 (hx.bel M17.bel); rw [hmy] at this; exact this) ?_
    rintro e w18 ⟨rfl, hb19⟩
    refine ⟨_, rfl, ?_⟩
    have M20 := M17.call hb19
    replace hB11 := bel_then hB11 hb19
    refine SL.nil ?_
    refine SM.back hb19 ?_
    refine SM.last ?_
    refine SU.run (d := 24) (v := .bool false) (fun y hy => by kernel_rfl) ?_
    refine SU.done ?_
    refine SC.next ?_
    refine SC.no (by kernel_rfl) ?_
    refine SC.skip (by kernel_rfl) ?_
    refine SC.next ?_
    refine SC.keep (l' := [(1, .pointer (some ⟨g1, 0, none⟩)), (2, .bool false), (3, .slice a1 0 c1), (4, .int .u32 0), (5, .int .i64 2)]) [1, 2, 3, 4, 5] (by kernel_rfl) ?_
    refine SC.seq (by kernel_rfl) ?_
    refine SC.seq (by kernel_rfl) ?_
    refine SC.region [0, 1, 2] (by kernel_rfl) (by kernel_rfl) ?_
    refine SL.load (d := 25) (t := 26) (a := .pointer (some ⟨g1, 0, none⟩)) (v := .agg #[.string xn, .slice xa1 xl1.length xc1, .slice xa2 xl2.length xc2, .slice xa3 xl3.length xc3]) (by kernel_rfl) (M20.ldBox 0 rfl Try.underlying26 rfl (by kernel_rfl)) ?_
    refine SL.call (d := 26) (f := 15) (vs := [.agg #[.string xn, .slice xa1 xl1.length xc1, .slice xa2 xl2.length xc2, .slice xa3 xl3.length xc3]]) (by kernel_rfl) (by kernel_rfl) (by have := rmay_walk (⟨xn, ⟨xa1, xc1, xl1⟩, ⟨xa2, xc2, xl2⟩, ⟨xa3, xc3, xl3⟩⟩ : Fc) w18 (hx.bel M20.bel); rw [hmy] at this; exact this) ?_
    rintro e w21 ⟨rfl, hb22⟩
    refine ⟨_, rfl, ?_⟩
    have M23 := M20.call hb22
    replace hB11 := bel_then hB11 hb22
    refine SL.run (d := 27) (v := .bool true) (by kernel_rfl) ?_
    refine SL.nil ?_
    refine SC.next ?_
    refine SC.yes (by kernel_rfl) ?_
    refine SC.seq (by kernel_rfl) ?_
    refine SC.region [0, 1, 2, 3, 4, 5, 6, 7, 8, 9, 10, 11, 12, 13, 14] (by kernel_rfl) (by kernel_rfl) ?_
    refine SL.run (d := 28) (v := .int .i64 2) (by kernel_rfl) ?_
    refine SL.run (d := 29) (v := .bool true) (by kernel_rfl) ?_
    refine SL.run (d := 30) (v := .bool true) (by kernel_rfl) ?_
    refine SL.run (d := 31) (v := .slice a1 0 c1) (by kernel_rfl) ?_
    refine SL.builtin (d := 32) (b := .len) (ts := [46]) (ty := 3) (vs := [.slice a1 0 c1]) (v := .int .i64 0) (by kernel_rfl) (fun k => run_len Try.underlying46 rfl k) ?_
    refine SL.run (d := 33) (v := .bool true) (by kernel_rfl) ?_
    refine SL.pick (d := 34) (v := .bool true) (by kernel_rfl) ?_
    refine SL.run (d := 35) (v := .bool true) (by kernel_rfl) ?_
    refine SL.run (d := 36) (v := .int .u32 0) (by kernel_rfl) ?_
    refine SL.run (d := 37) (v := .bool true) (by kernel_rfl) ?_
    refine SL.pick (d := 38) (v := .bool true) (by kernel_rfl) ?_
    refine SL.run (d := 39) (v := .bool true) (by kernel_rfl) ?_
    refine SL.call (d := 40) (f := 11) (vs := []) (by kernel_rfl) (by kernel_rfl) (known_walk w21) ?_
    rintro e w24 ⟨rfl, hb25⟩
    refine ⟨_, rfl, ?_⟩
    have M26 := M23.call hb25
    replace hB11 := bel_then hB11 hb25
    refine SL.pick (d := 41) (v := .bool true) (by kernel_rfl) ?_
    refine SL.run (d := 2) (v := .bool true) (by kernel_rfl) ?_
    refine SL.nil ?_
    refine SC.next ?_
    refine SC.keep (l' := [(1, .pointer (some ⟨g1, 0, none⟩)), (2, .bool true), (3, .slice a1 0 c1), (4, .int .u32 0), (5, .int .i64 2)]) [1, 2, 3, 4, 5] (by kernel_rfl) ?_
    refine SC.ret (by kernel_rfl) ?_
    refine SQ.seqExit (by nofun) ?_
    refine SQ.ret1 (t := 2) (v := .bool true) (.inr rfl) (by kernel_rfl) (by kernel_rfl) ?_
    exact ⟨rfl, M26.bel⟩
  · skip
    refine SC.yes (by kernel_rfl) ?_
    refine SC.seq (by kernel_rfl) ?_
    refine SC.region [0, 1] (by kernel_rfl) (by kernel_rfl) ?_
    refine SL.call (d := 13) (f := 11) (vs := []) (by kernel_rfl) (by kernel_rfl) (known_walk w5) ?_
    rintro e w27 ⟨rfl, hb28⟩
    refine ⟨_, rfl, ?_⟩
    have M29 := M7.call hb28
    refine SL.run (d := 2) (v := .bool true) (by kernel_rfl) ?_
    refine SL.nil ?_
    refine SC.next ?_
    refine SC.ret (by kernel_rfl) ?_
    refine SQ.seqExit (by nofun) ?_
    refine SQ.ret1 (t := 2) (v := .bool true) (.inr rfl) (by kernel_rfl) (by kernel_rfl) ?_
    exact ⟨rfl, M29.bel⟩
theorem bytesLaw_walk (x : Fc) (w : World) (hx : x.Rd w) : Calls Try.prog 8 #[x.val] w fun e w' => e = .returned (.bool true) ∧ Below w.heap.size w w' := by
  cases h : mayFace x.d with
  | true => exact bytesLaw_true x w hx h
  | false => exact bytesLaw_false x w hx h
end Go.Proofs.Ytfnibpkojhgflaa
