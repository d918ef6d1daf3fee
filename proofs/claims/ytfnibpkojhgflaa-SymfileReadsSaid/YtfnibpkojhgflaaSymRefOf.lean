/- Walk: the reference's Of. Printed by bin/gen_symrefof.py. -/
import Derived.Test.YtfnibpkojhgflaaSymRefOf0
import Derived.Test.YtfnibpkojhgflaaSymOf
import Derived.Test.YtfnibpkojhgflaaFaceRMay
import Derived.Test.YtfnibpkojhgflaaFaceRKey
namespace Go.Proofs.Ytfnibpkojhgflaa
set_option linter.unusedVariables false
set_option linter.unusedSimpArgs false
open Go.RowKit

set_option maxHeartbeats 4000000 in
theorem rof8_walk (a : Option Addr) (c : Nat) (l : List Int) (w : World) (hr : RdI .u8 w a c l) (hl : l.length ≤ 10000000) :
  Calls Try.prog 18 #[.slice a l.length c] w fun e w' => RefAs l e w' ∧ Below w.heap.size w w' := by
 have hnil : a = none → l.length = 0 ∧ c = 0 := hr.row.nil
 refine SC.enter (vs := [.slice a l.length c]) (n := 259) (l := [(0, .slice a l.length c)]) Try.func18 (by kernel_rfl) (by kernel_rfl) (by kernel_rfl) (by kernel_rfl) ?_
 have M0 := Mem.start w
 refine SC.seq (by kernel_rfl) (SC.region [0, 1, 2] (by kernel_rfl) (by kernel_rfl) (SL.allocM (d := 2) (t := 26) (z := .agg #[.string ⟨#[]⟩, .slice none 0 0, .slice none 0 0, .slice none 0 0]) (cs := #[.string ⟨#[]⟩, .slice none 0 0, .slice none 0 0, .slice none 0 0]) M0 (by kernel_rfl) (by kernel_rfl) rfl ?_))
 intro g1 w2 hb3 ⟨bg1, lg1⟩ M4
 refine SL.run (d := 3) (v := .int .u32 0) (by kernel_rfl) (SL.run (d := 4) (v := .bool false) (by kernel_rfl) (SL.nil (SC.next (SC.seq (by kernel_rfl) (SC.region [0, 1, 2, 3] (by kernel_rfl) (by kernel_rfl) (SL.run (d := 22) (v := .slice a l.length c) (by kernel_rfl) ?_))))))
 refine SL.build (d := 23) (t := 92) (ps := [(0, .slice a l.length c)]) (cs := #[.slice a l.length c, .int .i64 0, .bool false]) (by kernel_rfl) (by kernel_rfl) (SL.boxM (d := 24) (t := 92) (v := .agg #[.slice a l.length c, .int .i64 0, .bool false]) (cs := #[.slice a l.length c, .int .i64 0, .bool false]) M4 (by kernel_rfl) rfl ?_)
 intro g5 w6 hb7 ⟨bg5, lg5⟩ M8
 refine SL.run (d := 5) (v := .pointer (some ⟨g5, 0, none⟩)) (by kernel_rfl) (SL.nil ?_)
 have HR : RRd ⟨a, c, l⟩ w w6 g5 (some l) := ⟨by have := M8.lo 0 rfl (rfl : g5 = g5); exact this, M8.lt 0 rfl rfl, M8.bel, ⟨0, false, M8.get 0 rfl, Nat.zero_le _, rfl⟩, hr, hl⟩
 have M9 := HR.mem
 refine SC.next (SC.seq (by kernel_rfl) (SC.region [0] (by kernel_rfl) (by kernel_rfl) (SL.run (d := 6) (v := .int .u32 4294967295) (by kernel_rfl) (SL.nil (SC.next (SC.seq (by kernel_rfl) ?_))))))
 refine SC.seq (by kernel_rfl) (SC.region [0, 1, 2, 3] (by kernel_rfl) (by kernel_rfl) (SL.run (d := 25) (v := .pointer (some ⟨g5, 0, none⟩)) (by kernel_rfl) ?_))
 obtain ⟨l2, s0, hs2⟩ := some_list 2 (some l)
 refine SL.call (d := 26) (f := 40) (vs := [.pointer (some ⟨g5, 0, none⟩), .int .i64 2]) (by kernel_rfl) (by kernel_rfl) (by have := refSome_walk (HR.now M9 0 rfl) 2 (by decide) (.inr (by decide)); rw [hs2] at this; exact this) ?_
 rintro e w10 ⟨a2, c2, rfl, hr2, _, _, hR, hk⟩
 refine ⟨_, rfl, ?_⟩
 have M12 := M9.rrr 0 rfl hR hk
 refine SL.ex (d := 27) (m := convert 46 9 (.slice a2 l2.length c2)) (v := .string (strOf l2)) (by kernel_rfl) (run_str_of hr2 Try.underlying46 Try.underlying5 Try.underlying9) ?_
 rcases Bool.eq_false_or_eq_true (decide ((strOf l2) = (⟨#[83, 49]⟩ : ByteArray))) with h13 | h13
 ·skip
  have ph13 : (strOf l2) = (⟨#[83, 49]⟩ : ByteArray) := of_decide_eq_true h13
  have hl2 : ∀ x ∈ l2, isByte x := fun x hx => bd_u8 (hr2.bd x hx)
  have em := magic_of hl2 ph13
  have hsm : rSome 2 (some l) = ([83, 49], s0) := by rw [hs2, em]
  have hsb0 := (HR.now M12 0 rfl).sb
  have ha : Flat a := flatA_of hr (two_len hsm)
  refine SL.bool (d := 28) (x := (!((strOf l2).toList == (⟨#[83, 49]⟩ : ByteArray).toList))) (y := false) ((str_bne _ _).trans (by rw [h13]; rfl)) (by kernel_rfl) (SL.nil (SC.next (SC.no (by kernel_rfl) (SC.skip (by kernel_rfl) (SC.next (SC.seq (by kernel_rfl) ?_))))))
  refine SC.region [0, 1, 2, 3, 4] (by kernel_rfl) (by kernel_rfl) (SL.run (d := 30) (v := .pointer (some ⟨g5, 0, none⟩)) (by kernel_rfl) ?_)
  obtain ⟨v2, s2, hv2⟩ : ∃ x y, rNm s0 = (x, y) := ⟨_, _, rfl⟩
  refine SL.call (d := 31) (f := 41) (vs := [.pointer (some ⟨g5, 0, none⟩)]) (by kernel_rfl) (by kernel_rfl) (by have := refNm_walk (HR.now M12 0 rfl) ha; rw [hv2] at this; exact this) ?_
  rintro e w14 ⟨rfl, hR, hk⟩
  refine ⟨_, rfl, ?_⟩
  have M16 := M12.rrr 0 rfl hR hk
  refine SL.build (d := 32) (t := 26) (ps := [(0, .string v2)]) (cs := #[.string v2, .slice none 0 0, .slice none 0 0, .slice none 0 0]) (by kernel_rfl) (by kernel_rfl) (SL.allocM (d := 7) (t := 26) (z := .agg #[.string ⟨#[]⟩, .slice none 0 0, .slice none 0 0, .slice none 0 0]) (cs := #[.string ⟨#[]⟩, .slice none 0 0, .slice none 0 0, .slice none 0 0]) M16 (by kernel_rfl) (by kernel_rfl) rfl ?_)
  intro g17 w18 hb19 ⟨bg17, lg17⟩ M20
  refine SL.storeM (t := 26) (a := .pointer (some ⟨g17, 0, none⟩)) (v := .agg #[.string v2, .slice none 0 0, .slice none 0 0, .slice none 0 0]) (by kernel_rfl) (M20.stBox 0 rfl rfl (by kernel_rfl) rfl) ?_
  intro w21 M22 hk23 shk23
  refine SL.nil (SC.next (SC.seq (by kernel_rfl) (SC.region [0, 1, 2, 3] (by kernel_rfl) (by kernel_rfl) (SL.run (d := 33) (v := .pointer (some ⟨g5, 0, none⟩)) (by kernel_rfl) (SL.run (d := 34) (v := .int .u32 4294967295) (by kernel_rfl) ?_)))))
  obtain ⟨v3, s3, hv3, bv3⟩ := rnum_nat (HR.now M22 1 rfl) 4294967295 (by decide)
  have ahv3 := hv3
  rw [rNum_all (HR.now M22 1 rfl).sb] at hv3
  refine SL.call (d := 35) (f := 42) (vs := [.pointer (some ⟨g5, 0, none⟩), .int .u32 4294967295]) (by kernel_rfl) (by kernel_rfl) (by have := refWord8_walk (HR.now M22 1 rfl) 4294967295 (by decide) (by decide); rw [ahv3] at this; exact this) ?_
  rintro e w24 ⟨rfl, hR, hk⟩
  refine ⟨_, rfl, ?_⟩
  have M26 := M22.rrr 1 rfl hR hk
  refine SL.run (d := 8) (v := .int .u32 v3) (by kernel_rfl) (SL.nil (SC.next (SC.seq (by kernel_rfl) (SC.seq (by kernel_rfl) ?_))))
  have hsb3 := (HR.now M26 1 rfl).sb
  obtain ⟨riz28, rbz28, M27, rhiz28, rhsz28⟩ := M26.rrOpen 1 rfl
  dsimp only at rhiz28 rhsz28
  replace rhsz28 : s3 = stOf rbz28 (l.drop riz28) := rhsz28
  refine SC.region [0, 1, 2, 3, 4, 5, 6, 7, 8, 9, 10, 11, 12, 13, 14] (by kernel_rfl) (by kernel_rfl) (SL.run (d := 36) (v := .pointer (some ⟨g5, 0, none⟩)) (by kernel_rfl) (SL.run (d := 37) (v := .pointer (some ⟨g5, 0, none⟩)) (by kernel_rfl) (SL.run (d := 38) (v := .pointer (some ⟨g5, 2, none⟩)) (by kernel_rfl) (SL.load (d := 39) (t := 4) (a := .pointer (some ⟨g5, 2, none⟩)) (v := .bool rbz28) (by kernel_rfl) (M27.ldCell 1 rfl (j := 2) (v := .bool rbz28) rfl Try.underlying4 rfl) (SL.run (d := 40) (v := .bool rbz28) (by kernel_rfl) ?_)))))
  cases rbz28
  ·skip
   refine SL.run (d := 41) (v := .slice a l.length c) (by kernel_rfl) (SL.run (d := 42) (v := .pointer (some ⟨g5, 0, none⟩)) (by kernel_rfl) (SL.run (d := 43) (v := .pointer (some ⟨g5, 0, none⟩)) (by kernel_rfl) (SL.run (d := 44) (v := .pointer (some ⟨g5, 1, none⟩)) (by kernel_rfl) (SL.load (d := 45) (t := 3) (a := .pointer (some ⟨g5, 1, none⟩)) (v := .int .i64 riz28) (by kernel_rfl) (M27.ldCell 1 rfl (j := 1) (v := .int .i64 riz28) rfl Try.underlying3 rfl) (SL.ex (d := 46) (m := Instr.sliceAt 46 (.slice a l.length c) (some (.int .i64 riz28)) none none) (v := .slice (cutV a c riz28) (l.length - riz28) (c - riz28)) (by kernel_rfl) (cut_lA riz28 Try.underlying46 (by kernel_rfl) rfl ha hnil (by omega)) ?_)))))
   have hkr : RdI .u8 w24 ((cutV a c riz28)) (c - riz28) (l.drop riz28) ∧ (l.drop riz28).length = l.length - riz28 := by
    have := (hr.below (bel_keg HR.bel HR.low M27.ke) (Nat.le_refl _)).window riz28 l.length rhiz28 (Nat.le_refl _) (fun x hx => by rcases ha with rfl | ⟨b, o, rfl⟩; cases hx; cases hx; rfl)
    rw [List.take_of_length_le (by rw [List.length_drop]; exact Nat.le_refl _)] at this
    exact ⟨this.1, by rw [List.length_drop]⟩
   obtain ⟨kk, hkk⟩ : ∃ k, Key.of (l.drop riz28) = k := ⟨_, rfl⟩
   refine SL.call (d := 47) (f := 21) (vs := [.slice (cutV a c riz28) (l.length - riz28) (c - riz28)]) (by kernel_rfl) (by kernel_rfl) (by have := fkey_walk _ _ _ w24 hkr.1; rw [hkr.2, hkk] at this; exact this) ?_
   rintro e _ ⟨rfl, rfl⟩
   refine ⟨_, rfl, ?_⟩
   refine SL.run (d := 48) (v := .int .u32 v3) (by kernel_rfl) ?_
   rcases Bool.eq_false_or_eq_true (decide (kk = ((v3 : Nat) : Int))) with h32 | h32
   ·skip
    have ph32 : kk = ((v3 : Nat) : Int) := of_decide_eq_true h32
    have hkey : ∀ r, s3 = some r → Key.of r = (v3 : Int) := fun r hr' => by rw [rhsz28] at hr'; have := Option.some.inj hr'; subst this; rw [hkk]; exact ph32
    have M33 := Mem.rrClose (D := ⟨a, c, l⟩) M27 1 rfl rhiz28 rhsz28
    refine SL.bool (d := 49) (x := (kk != ((v3 : Nat) : Int))) (y := false) ((int_bne _ _).trans (by rw [h32]; rfl)) (by kernel_rfl) (SL.pick (d := 50) (v := .bool false) (by kernel_rfl) (SL.nil (SC.next (SC.keep (l' := [(0, .slice a l.length c), (2, .pointer (some ⟨g1, 0, none⟩)), (3, .int .u32 0), (4, .bool false), (5, .pointer (some ⟨g5, 0, none⟩)), (6, .int .u32 4294967295), (7, .pointer (some ⟨g17, 0, none⟩)), (8, .int .u32 v3), (50, .bool false)]) [0, 2, 3, 4, 5, 6, 7, 8, 50] (by kernel_rfl) (SC.no (by kernel_rfl) (SC.skip (by kernel_rfl) ?_))))))
    refine SC.next (SC.seq (by kernel_rfl) (SC.region [0, 1, 2] (by kernel_rfl) (by kernel_rfl) (SL.run (d := 52) (v := .pointer (some ⟨g5, 0, none⟩)) (by kernel_rfl) ?_)))
    obtain ⟨v4, s4, hv4, bv4⟩ := rbyte_nat (HR.now M33 1 rfl)
    refine SL.call (d := 53) (f := 43) (vs := [.pointer (some ⟨g5, 0, none⟩)]) (by kernel_rfl) (by kernel_rfl) (by have := refByte_walk (HR.now M33 1 rfl); rw [hv4] at this; exact this) ?_
    rintro e w34 ⟨rfl, hR, hk⟩
    refine ⟨_, rfl, ?_⟩
    have M36 := M33.rrr 1 rfl hR hk
    refine SL.run (d := 9) (v := .int .i64 v4) (by kernel_rfl) (SL.nil (SC.next ?_))
    refine SC.seqJ (X := Option Addr × Nat × List Imp × St) (fun x => [(0, .slice a l.length c), (2, .pointer (some ⟨g1, 0, none⟩)), (3, .int .u32 0), (4, .bool false), (5, .pointer (some ⟨g5, 0, none⟩)), (6, .int .u32 4294967295), (7, .pointer (some ⟨g17, 0, none⟩)), (8, .int .u32 v3), (9, .int .i64 v4)]) (fun x wr => Mem ⟨w6, (· = g5)⟩ wr ([rw' x.1 x.2.2.1.length x.2.1 86 2 (x.2.2.1.flatMap impD.cells), bx g17 #[.string v2, .slice x.1 x.2.2.1.length x.2.1, .slice none 0 0, .slice none 0 0] 26, rrR ⟨a, c, l⟩ g5 x.2.2.2]) ∧ (LoopI rImp8 v4 s4 (x.2.2.1) x.2.2.2)) PanOk.body (by kernel_rfl) ?_ ?_
    ·skip
     rintro ⟨ia, ic, is, s5x⟩ w38 ⟨M39, hI37⟩
     replace M39 : Mem ⟨w6, (· = g5)⟩ w38 ([rw' ia is.length ic 86 2 (is.flatMap impD.cells), bx g17 #[.string v2, .slice ia is.length ic, .slice none 0 0, .slice none 0 0] 26, rrR ⟨a, c, l⟩ g5 s5x]) := M39
     replace hI37 : LoopI rImp8 v4 s4 (is) s5x := hI37
     show SC _ _ _ _ _ [(0, .slice a l.length c), (2, .pointer (some ⟨g1, 0, none⟩)), (3, .int .u32 0), (4, .bool false), (5, .pointer (some ⟨g5, 0, none⟩)), (6, .int .u32 4294967295), (7, .pointer (some ⟨g17, 0, none⟩)), (8, .int .u32 v3), (9, .int .i64 v4)] _
     have hLi := hI37
     refine SC.seq (by kernel_rfl) (SC.region [0, 1, 2] (by kernel_rfl) (by kernel_rfl) (SL.run (d := 78) (v := .pointer (some ⟨g5, 0, none⟩)) (by kernel_rfl) ?_))
     obtain ⟨v5, s5, hv5, bv5⟩ := rbyte_nat (HR.now M39 2 rfl)
     refine SL.call (d := 79) (f := 43) (vs := [.pointer (some ⟨g5, 0, none⟩)]) (by kernel_rfl) (by kernel_rfl) (by have := refByte_walk (HR.now M39 2 rfl); rw [hv5] at this; exact this) ?_
     rintro e w40 ⟨rfl, hR, hk⟩
     refine ⟨_, rfl, ?_⟩
     have M42 := M39.rrr 2 rfl hR hk
     refine SL.run (d := 9) (v := .int .i64 v5) (by kernel_rfl) (SL.nil (SC.next ?_))
     refine SC.seqJ (X := Option Addr × Nat × List FT × St) (fun x => [(0, .slice a l.length c), (2, .pointer (some ⟨g1, 0, none⟩)), (3, .int .u32 0), (4, .bool false), (5, .pointer (some ⟨g5, 0, none⟩)), (6, .int .u32 4294967295), (7, .pointer (some ⟨g17, 0, none⟩)), (8, .int .u32 v3), (9, .int .i64 v5)]) (fun x wr => Mem ⟨w6, (· = g5)⟩ wr ([rw' x.1 x.2.2.1.length x.2.1 34 6 (x.2.2.1.flatMap ftD.cells), rw' ia is.length ic 86 2 (is.flatMap impD.cells), bx g17 #[.string v2, .slice ia is.length ic, .slice x.1 x.2.2.1.length x.2.1, .slice none 0 0] 26, rrR ⟨a, c, l⟩ g5 x.2.2.2] ++ (x.2.2.1.map typR)) ∧ (LoopI rTyp v5 s5 (x.2.2.1.map FT.d) x.2.2.2)) PanOk.body (by kernel_rfl) ?_ ?_
     ·skip
      rintro ⟨ta, tc, ts, s7x⟩ w44 ⟨M45, hI43⟩
      replace M45 : Mem ⟨w6, (· = g5)⟩ w44 ([rw' ta ts.length tc 34 6 (ts.flatMap ftD.cells), rw' ia is.length ic 86 2 (is.flatMap impD.cells), bx g17 #[.string v2, .slice ia is.length ic, .slice ta ts.length tc, .slice none 0 0] 26, rrR ⟨a, c, l⟩ g5 s7x] ++ (ts.map typR)) := M45
      replace hI43 : LoopI rTyp v5 s5 (ts.map FT.d) s7x := hI43
      show SC _ _ _ _ _ [(0, .slice a l.length c), (2, .pointer (some ⟨g1, 0, none⟩)), (3, .int .u32 0), (4, .bool false), (5, .pointer (some ⟨g5, 0, none⟩)), (6, .int .u32 4294967295), (7, .pointer (some ⟨g17, 0, none⟩)), (8, .int .u32 v3), (9, .int .i64 v5)] _
      have hLt := hI43
      refine SC.seq (by kernel_rfl) (SC.region [0, 1, 2, 3] (by kernel_rfl) (by kernel_rfl) (SL.run (d := 158) (v := .pointer (some ⟨g5, 0, none⟩)) (by kernel_rfl) ?_))
      obtain ⟨v6, s6, hv6, bv6⟩ := rnum_nat (HR.now M45 3 rfl) 900 (by decide)
      refine SL.call (d := 159) (f := 42) (vs := [.pointer (some ⟨g5, 0, none⟩), .int .u32 900]) (by kernel_rfl) (by kernel_rfl) (by have := refWord8_walk (HR.now M45 3 rfl) 900 (by decide) (by decide); rw [hv6] at this; exact this) ?_
      rintro e w46 ⟨rfl, hR, hk⟩
      refine ⟨_, rfl, ?_⟩
      have M48 := M45.rrr 3 rfl hR hk
      refine SL.int (d := 160) (q := .i64) (x := IntKind.wrap .i64 ((v6 : Nat) : Int)) (y := ((v6 : Nat) : Int)) (wr64 (by omega) (by omega) (by omega)) (by kernel_rfl) (SL.run (d := 9) (v := .int .i64 v6) (by kernel_rfl) (SL.nil (SC.next ?_)))
      refine SC.seqJ (X := Option Addr × Nat × List FO × St) (fun x => [(0, .slice a l.length c), (2, .pointer (some ⟨g1, 0, none⟩)), (3, .int .u32 0), (4, .bool false), (5, .pointer (some ⟨g5, 0, none⟩)), (7, .pointer (some ⟨g17, 0, none⟩)), (8, .int .u32 v3)]) (fun x wr => Mem ⟨w6, (· = g5)⟩ wr ([rw' x.1 x.2.2.1.length x.2.1 42 6 (x.2.2.1.flatMap foD.cells), rw' ta ts.length tc 34 6 (ts.flatMap ftD.cells), rw' ia is.length ic 86 2 (is.flatMap impD.cells), bx g17 #[.string v2, .slice ia is.length ic, .slice ta ts.length tc, .slice x.1 x.2.2.1.length x.2.1] 26, rrR ⟨a, c, l⟩ g5 x.2.2.2] ++ (ts.map typR ++ x.2.2.1.map objR)) ∧ (LoopI rObj8 v6 s6 (x.2.2.1.map FO.d) x.2.2.2)) PanOk.body (by kernel_rfl) ?_ ?_
      ·skip
       rintro ⟨oa, oc, os, s9⟩ w50 ⟨M51, hI49⟩
       replace M51 : Mem ⟨w6, (· = g5)⟩ w50 ([rw' oa os.length oc 42 6 (os.flatMap foD.cells), rw' ta ts.length tc 34 6 (ts.flatMap ftD.cells), rw' ia is.length ic 86 2 (is.flatMap impD.cells), bx g17 #[.string v2, .slice ia is.length ic, .slice ta ts.length tc, .slice oa os.length oc] 26, rrR ⟨a, c, l⟩ g5 s9] ++ (ts.map typR ++ os.map objR)) := M51
       replace hI49 : LoopI rObj8 v6 s6 (os.map FO.d) s9 := hI49
       show SC _ _ _ _ _ [(0, .slice a l.length c), (2, .pointer (some ⟨g1, 0, none⟩)), (3, .int .u32 0), (4, .bool false), (5, .pointer (some ⟨g5, 0, none⟩)), (7, .pointer (some ⟨g17, 0, none⟩)), (8, .int .u32 v3)] _
       have hLo := hI49
       refine SC.seq (by kernel_rfl) (SC.seq (by kernel_rfl) ?_)
       have hsb9 := (HR.now M51 4 rfl).sb
       obtain ⟨riz53, rbz53, M52, rhiz53, rhsz53⟩ := M51.rrOpen 4 rfl
       dsimp only at rhiz53 rhsz53
       replace rhsz53 : s9 = stOf rbz53 (l.drop riz53) := rhsz53
       refine SC.region [0, 1, 2, 3, 4, 5, 6, 7, 8, 9, 10, 11, 12, 13, 14, 15, 16, 17] (by kernel_rfl) (by kernel_rfl) (SL.run (d := 238) (v := .pointer (some ⟨g5, 0, none⟩)) (by kernel_rfl) (SL.run (d := 239) (v := .pointer (some ⟨g5, 0, none⟩)) (by kernel_rfl) (SL.run (d := 240) (v := .pointer (some ⟨g5, 2, none⟩)) (by kernel_rfl) (SL.load (d := 241) (t := 4) (a := .pointer (some ⟨g5, 2, none⟩)) (v := .bool rbz53) (by kernel_rfl) (M52.ldCell 4 rfl (j := 2) (v := .bool rbz53) rfl Try.underlying4 rfl) (SL.run (d := 242) (v := .bool rbz53) (by kernel_rfl) ?_)))))
       cases rbz53
       ·skip
        refine SL.run (d := 243) (v := .pointer (some ⟨g5, 0, none⟩)) (by kernel_rfl) (SL.run (d := 244) (v := .pointer (some ⟨g5, 0, none⟩)) (by kernel_rfl) (SL.run (d := 245) (v := .pointer (some ⟨g5, 1, none⟩)) (by kernel_rfl) (SL.load (d := 246) (t := 3) (a := .pointer (some ⟨g5, 1, none⟩)) (v := .int .i64 riz53) (by kernel_rfl) (M52.ldCell 4 rfl (j := 1) (v := .int .i64 riz53) rfl Try.underlying3 rfl) (SL.run (d := 247) (v := .slice a l.length c) (by kernel_rfl) (SL.builtin (d := 248) (b := .len) (ts := [46]) (ty := 3) (vs := [.slice a l.length c]) (v := .int .i64 ((l.length : Nat) : Int)) (by kernel_rfl) (fun k => run_len Try.underlying46 rfl k) ?_)))))
        rcases Bool.eq_false_or_eq_true (decide (((riz53 : Nat) : Int) = ((l.length : Nat) : Int))) with h54 | h54
        ·skip
         have ph54 : ((riz53 : Nat) : Int) = ((l.length : Nat) : Int) := of_decide_eq_true h54
         refine SL.bool (d := 249) (x := (((riz53 : Nat) : Int) != ((l.length : Nat) : Int))) (y := false) ((int_bne _ _).trans (by rw [h54]; rfl)) (by kernel_rfl) (SL.pick (d := 250) (v := .bool false) (by kernel_rfl) (SL.run (d := 251) (v := .bool false) (by kernel_rfl) (SL.load (d := 252) (t := 26) (a := .pointer (some ⟨g17, 0, none⟩)) (v := .agg #[.string v2, .slice ia is.length ic, .slice ta ts.length tc, .slice oa os.length oc]) (by kernel_rfl) (M52.ldBox 3 rfl Try.underlying26 rfl (by kernel_rfl)) ?_)))
         have M55 : Mem ⟨w6, (· = g5)⟩ w50 ([rw' oa os.length oc 42 6 (os.flatMap foD.cells), rw' ta ts.length tc 34 6 (ts.flatMap ftD.cells), rw' ia is.length ic 86 2 (is.flatMap impD.cells), bx g17 #[.string v2, .slice ia is.length ic, .slice ta ts.length tc, .slice oa os.length oc] 26, bx g5 #[.slice a l.length c, .int .i64 riz53, .bool false] 92] ++ (ts.map typR ++ os.map objR)) := M52
         have hri : riz53 = l.length := by have := ph54; omega
         have hs9 : s9 = some [] := by rw [rhsz53, hri]; simp [stOf]
         obtain ⟨q1, q2⟩ := rest_steps hv4 hLi hv5 hLt hv6 hLo
         obtain ⟨him, htm, hom⟩ := rest_ok hsb3 (q2 (by rw [hs9]; exact nofun))
         have hn2 : v2.size ≤ maxLen := by have h := sb_nm hsb0; rw [hv2] at h; exact max255 h.1
         have M56 : Mem ⟨w6, (· = g5)⟩ w50 ([rw' oa os.length oc 42 6 (os.flatMap foD.cells), rw' ta ts.length tc 34 6 (ts.flatMap ftD.cells), rw' ia is.length ic 86 2 (is.flatMap impD.cells), bx g17 #[.string v2, .slice ia is.length ic, .slice ta ts.length tc, .slice oa os.length oc] 26, bx g5 #[.slice a l.length c, .int .i64 riz53, .bool false] 92] ++ (ts.map typR ++ os.map objR)) := M55
         have hRd : (⟨v2, ⟨ia, ic, is⟩, ⟨ta, tc, ts⟩, ⟨oa, oc, os⟩⟩ : Fc).Rd w50 := by
          refine ⟨hn2, ⟨by have := M56.rd 2 rfl; exact this, fun x hx => ?_⟩, ⟨by have := M56.rd 1 rfl; exact this, fun x hx => rd_ft (M56.own _ (List.mem_append_right _ (List.mem_append_left _ (List.mem_map_of_mem hx)))).1 (htm _ (List.mem_map_of_mem hx))⟩, ⟨by have := M56.rd 0 rfl; exact this, fun x hx => rd_fo (M56.own _ (List.mem_append_right _ (List.mem_append_right _ (List.mem_map_of_mem hx)))).1 (hom _ (List.mem_map_of_mem hx))⟩⟩
          obtain ⟨q1, q2, q3⟩ := him x hx
          exact ⟨by have q1 : (x.name.size : Int) ≤ 255 := q1; exact max255 (by omega), q2, q3⟩
         obtain ⟨my, hmy⟩ : ∃ b, mayFace (⟨v2, ⟨ia, ic, is⟩, ⟨ta, tc, ts⟩, ⟨oa, oc, os⟩⟩ : Fc).d = b := ⟨_, rfl⟩
         refine SL.call (d := 253) (f := 15) (vs := [.agg #[.string v2, .slice ia is.length ic, .slice ta ts.length tc, .slice oa os.length oc]]) (by kernel_rfl) (by kernel_rfl) (by have := rmay_walk (⟨v2, ⟨ia, ic, is⟩, ⟨ta, tc, ts⟩, ⟨oa, oc, os⟩⟩ : Fc) w50 hRd; rw [hmy] at this; exact this) ?_
         rintro e w57 ⟨rfl, hb58⟩
         refine ⟨_, rfl, ?_⟩
         have M59 := M56.call hb58
         cases my
         ·skip
          refine SL.run (d := 254) (v := .bool true) (by kernel_rfl) (SL.pick (d := 255) (v := .bool true) (by kernel_rfl) (SL.nil (SC.next (SC.keep (l' := [(2, .pointer (some ⟨g1, 0, none⟩)), (3, .int .u32 0), (4, .bool false), (7, .pointer (some ⟨g17, 0, none⟩)), (8, .int .u32 v3), (255, .bool true)]) [2, 3, 4, 7, 8, 255] (by kernel_rfl) (SC.yes (by kernel_rfl) (SC.seq (by kernel_rfl) ?_))))))
          have M60 : Mem w w57 ([rw' oa os.length oc 42 6 (os.flatMap foD.cells), rw' ta ts.length tc 34 6 (ts.flatMap ftD.cells), rw' ia is.length ic 86 2 (is.flatMap impD.cells), bx g17 #[.string v2, .slice ia is.length ic, .slice ta ts.length tc, .slice oa os.length oc] 26, bx g5 #[.slice a l.length c, .int .i64 riz53, .bool false] 92] ++ (ts.map typR ++ os.map objR) ++ [bx g1 #[.string ⟨#[]⟩, .slice none 0 0, .slice none 0 0, .slice none 0 0] 26]) := Mem.frame M8 M59 rfl
          have M61 : Mem w w57 ([bx g1 #[.string ⟨#[]⟩, .slice none 0 0, .slice none 0 0, .slice none 0 0] 26, rw' oa os.length oc 42 6 (os.flatMap foD.cells), rw' ta ts.length tc 34 6 (ts.flatMap ftD.cells), rw' ia is.length ic 86 2 (is.flatMap impD.cells), bx g17 #[.string v2, .slice ia is.length ic, .slice ta ts.length tc, .slice oa os.length oc] 26, bx g5 #[.slice a l.length c, .int .i64 riz53, .bool false] 92] ++ (ts.map typR ++ os.map objR)) := Mem.permute M60 (List.perm_append_comm (l₂ := [bx g1 #[.string ⟨#[]⟩, .slice none 0 0, .slice none 0 0, .slice none 0 0] 26]))
          refine SC.region [0, 1, 2, 3] (by kernel_rfl) (by kernel_rfl) (SL.build (d := 256) (t := 26) (ps := []) (cs := #[.string ⟨#[]⟩, .slice none 0 0, .slice none 0 0, .slice none 0 0]) (by kernel_rfl) (by kernel_rfl) (SL.storeM (t := 26) (a := .pointer (some ⟨g1, 0, none⟩)) (v := .agg #[.string ⟨#[]⟩, .slice none 0 0, .slice none 0 0, .slice none 0 0]) (by kernel_rfl) (M61.stBox 0 rfl rfl (by kernel_rfl) rfl) ?_))
          intro w62 M63 hk64 shk64
          refine SL.run (d := 3) (v := .int .u32 0) (by kernel_rfl) (SL.run (d := 4) (v := .bool false) (by kernel_rfl) (SL.nil (SC.next (SC.ret (by kernel_rfl) (SQ.seqExit (by nofun) ?_)))))
          refine SQ.retE (P := Try.prog) (v := .tuple #[.agg #[.string ⟨#[]⟩, .slice none 0 0, .slice none 0 0, .slice none 0 0], .int .u32 0, .bool false]) (.inr rfl) (fun a ha => ?_) ?_
          ·exact res_c_t_t (by kernel_rfl) (ha.getD (t := 2) (v := .pointer (some ⟨g1, 0, none⟩)) (by kernel_rfl)) (ha.getD (t := 3) (v := .int .u32 0) (by kernel_rfl)) (ha.getD (t := 4) (v := .bool false) (by kernel_rfl)) (M63.ldBox 0 rfl Try.underlying26 rfl (by kernel_rfl))
          have eq9 := rest_steps hv4 hLi hv5 hLt hv6 hLo
          have eF := ofF_steps (x := (rRest8 s3).1) (s9 := s9) hsm hv2 hv3 hkey (by rw [← eq9.1])
          refine ⟨.inl ⟨?_, rfl⟩, M63.bel⟩
          rw [eF, if_neg]
          rintro ⟨q1, q2⟩
          rw [eq9.2 (by rw [q1]; exact nofun)] at q2
          have q2 : mayFace (⟨v2, ⟨ia, ic, is⟩, ⟨ta, tc, ts⟩, ⟨oa, oc, os⟩⟩ : Fc).d = true := q2
          rw [hmy] at q2
          cases q2
         ·skip
          refine SL.run (d := 254) (v := .bool false) (by kernel_rfl) (SL.pick (d := 255) (v := .bool false) (by kernel_rfl) (SL.nil (SC.next (SC.keep (l' := [(2, .pointer (some ⟨g1, 0, none⟩)), (3, .int .u32 0), (4, .bool false), (7, .pointer (some ⟨g17, 0, none⟩)), (8, .int .u32 v3), (255, .bool false)]) [2, 3, 4, 7, 8, 255] (by kernel_rfl) (SC.no (by kernel_rfl) (SC.skip (by kernel_rfl) ?_))))))
          refine SC.next (SC.seq (by kernel_rfl) ?_)
          have M65 : Mem w w57 ([rw' oa os.length oc 42 6 (os.flatMap foD.cells), rw' ta ts.length tc 34 6 (ts.flatMap ftD.cells), rw' ia is.length ic 86 2 (is.flatMap impD.cells), bx g17 #[.string v2, .slice ia is.length ic, .slice ta ts.length tc, .slice oa os.length oc] 26, bx g5 #[.slice a l.length c, .int .i64 riz53, .bool false] 92] ++ (ts.map typR ++ os.map objR) ++ [bx g1 #[.string ⟨#[]⟩, .slice none 0 0, .slice none 0 0, .slice none 0 0] 26]) := Mem.frame M8 M59 rfl
          have M66 : Mem w w57 ([bx g1 #[.string ⟨#[]⟩, .slice none 0 0, .slice none 0 0, .slice none 0 0] 26, rw' oa os.length oc 42 6 (os.flatMap foD.cells), rw' ta ts.length tc 34 6 (ts.flatMap ftD.cells), rw' ia is.length ic 86 2 (is.flatMap impD.cells), bx g17 #[.string v2, .slice ia is.length ic, .slice ta ts.length tc, .slice oa os.length oc] 26, bx g5 #[.slice a l.length c, .int .i64 riz53, .bool false] 92] ++ (ts.map typR ++ os.map objR)) := Mem.permute M65 (List.perm_append_comm (l₂ := [bx g1 #[.string ⟨#[]⟩, .slice none 0 0, .slice none 0 0, .slice none 0 0] 26]))
          refine SC.region [0, 1, 2, 3, 4] (by kernel_rfl) (by kernel_rfl) (SL.load (d := 257) (t := 26) (a := .pointer (some ⟨g17, 0, none⟩)) (v := .agg #[.string v2, .slice ia is.length ic, .slice ta ts.length tc, .slice oa os.length oc]) (by kernel_rfl) (M66.ldBox 4 rfl Try.underlying26 rfl (by kernel_rfl)) (SL.run (d := 258) (v := .int .u32 v3) (by kernel_rfl) (SL.storeM (t := 26) (a := .pointer (some ⟨g1, 0, none⟩)) (v := .agg #[.string v2, .slice ia is.length ic, .slice ta ts.length tc, .slice oa os.length oc]) (by kernel_rfl) (M66.stBox 0 rfl rfl (by kernel_rfl) rfl) ?_)))
          intro w67 M68 hk69 shk69
          refine SL.run (d := 3) (v := .int .u32 v3) (by kernel_rfl) (SL.run (d := 4) (v := .bool true) (by kernel_rfl) (SL.nil (SC.next (SC.ret (by kernel_rfl) ?_))))
          refine SQ.retE (P := Try.prog) (v := .tuple #[.agg #[.string v2, .slice ia is.length ic, .slice ta ts.length tc, .slice oa os.length oc], .int .u32 v3, .bool true]) (.inr rfl) (fun a ha => ?_) ?_
          ·exact res_c_t_t (by kernel_rfl) (ha.getD (t := 2) (v := .pointer (some ⟨g1, 0, none⟩)) (by kernel_rfl)) (ha.getD (t := 3) (v := .int .u32 v3) (by kernel_rfl)) (ha.getD (t := 4) (v := .bool true) (by kernel_rfl)) (M68.ldBox 0 rfl Try.underlying26 rfl (by kernel_rfl))
          have eq9 := rest_steps hv4 hLi hv5 hLt hv6 hLo
          have eF := ofF_steps (x := (rRest8 s3).1) (s9 := s9) hsm hv2 hv3 hkey (by rw [← eq9.1])
          refine ⟨.inr ⟨(⟨v2, ⟨ia, ic, is⟩, ⟨ta, tc, ts⟩, ⟨oa, oc, os⟩⟩ : Fc), (v3 : Int), ?_, rfl, ?_⟩, M68.bel⟩
          ·rw [eq9.2 (by rw [hs9]; exact nofun)] at eF
           rw [eF, if_pos ⟨hs9, hmy⟩]; rfl
          ·skip
           have M70 : Mem w w67 ([bx g1 #[.string v2, .slice ia is.length ic, .slice ta ts.length tc, .slice oa os.length oc] 26, rw' oa os.length oc 42 6 (os.flatMap foD.cells), rw' ta ts.length tc 34 6 (ts.flatMap ftD.cells), rw' ia is.length ic 86 2 (is.flatMap impD.cells), bx g17 #[.string v2, .slice ia is.length ic, .slice ta ts.length tc, .slice oa os.length oc] 26, bx g5 #[.slice a l.length c, .int .i64 riz53, .bool false] 92] ++ (ts.map typR ++ os.map objR)) := M68
           have hRdE : (⟨v2, ⟨ia, ic, is⟩, ⟨ta, tc, ts⟩, ⟨oa, oc, os⟩⟩ : Fc).Rd w67 := by
            refine ⟨hn2, ⟨by have := M70.rd 3 rfl; exact this, fun x hx => ?_⟩, ⟨by have := M70.rd 2 rfl; exact this, fun x hx => rd_ft (M70.own _ (List.mem_append_right _ (List.mem_append_left _ (List.mem_map_of_mem hx)))).1 (htm _ (List.mem_map_of_mem hx))⟩, ⟨by have := M70.rd 1 rfl; exact this, fun x hx => rd_fo (M70.own _ (List.mem_append_right _ (List.mem_append_right _ (List.mem_map_of_mem hx)))).1 (hom _ (List.mem_map_of_mem hx))⟩⟩
            obtain ⟨q1, q2, q3⟩ := him x hx
            exact ⟨by have q1 : (x.name.size : Int) ≤ 255 := q1; exact max255 (by omega), q2, q3⟩
           exact hRdE
        ·skip
         have ph54 : ¬ (((riz53 : Nat) : Int) = ((l.length : Nat) : Int)) := of_decide_eq_false h54
         refine SL.bool (d := 249) (x := (((riz53 : Nat) : Int) != ((l.length : Nat) : Int))) (y := true) ((int_bne _ _).trans (by rw [h54]; rfl)) (by kernel_rfl) (SL.pick (d := 250) (v := .bool true) (by kernel_rfl) (SL.run (d := 251) (v := .bool true) (by kernel_rfl) (SL.offs [14, 15, 16] (is := [17]) rfl (by kernel_rfl) (SL.pick (d := 255) (v := .bool true) (by kernel_rfl) (SL.nil (SC.next ?_))))))
         refine SC.keep (l' := [(2, .pointer (some ⟨g1, 0, none⟩)), (3, .int .u32 0), (4, .bool false), (7, .pointer (some ⟨g17, 0, none⟩)), (8, .int .u32 v3), (255, .bool true)]) [2, 3, 4, 7, 8, 255] (by kernel_rfl) (SC.yes (by kernel_rfl) (SC.seq (by kernel_rfl) ?_))
         have M71 : Mem w w50 ([rw' oa os.length oc 42 6 (os.flatMap foD.cells), rw' ta ts.length tc 34 6 (ts.flatMap ftD.cells), rw' ia is.length ic 86 2 (is.flatMap impD.cells), bx g17 #[.string v2, .slice ia is.length ic, .slice ta ts.length tc, .slice oa os.length oc] 26, bx g5 #[.slice a l.length c, .int .i64 riz53, .bool false] 92] ++ (ts.map typR ++ os.map objR) ++ [bx g1 #[.string ⟨#[]⟩, .slice none 0 0, .slice none 0 0, .slice none 0 0] 26]) := Mem.frame M8 M52 rfl
         have M72 : Mem w w50 ([bx g1 #[.string ⟨#[]⟩, .slice none 0 0, .slice none 0 0, .slice none 0 0] 26, rw' oa os.length oc 42 6 (os.flatMap foD.cells), rw' ta ts.length tc 34 6 (ts.flatMap ftD.cells), rw' ia is.length ic 86 2 (is.flatMap impD.cells), bx g17 #[.string v2, .slice ia is.length ic, .slice ta ts.length tc, .slice oa os.length oc] 26, bx g5 #[.slice a l.length c, .int .i64 riz53, .bool false] 92] ++ (ts.map typR ++ os.map objR)) := Mem.permute M71 (List.perm_append_comm (l₂ := [bx g1 #[.string ⟨#[]⟩, .slice none 0 0, .slice none 0 0, .slice none 0 0] 26]))
         refine SC.region [0, 1, 2, 3] (by kernel_rfl) (by kernel_rfl) (SL.build (d := 256) (t := 26) (ps := []) (cs := #[.string ⟨#[]⟩, .slice none 0 0, .slice none 0 0, .slice none 0 0]) (by kernel_rfl) (by kernel_rfl) (SL.storeM (t := 26) (a := .pointer (some ⟨g1, 0, none⟩)) (v := .agg #[.string ⟨#[]⟩, .slice none 0 0, .slice none 0 0, .slice none 0 0]) (by kernel_rfl) (M72.stBox 0 rfl rfl (by kernel_rfl) rfl) ?_))
         intro w73 M74 hk75 shk75
         refine SL.run (d := 3) (v := .int .u32 0) (by kernel_rfl) (SL.run (d := 4) (v := .bool false) (by kernel_rfl) (SL.nil (SC.next (SC.ret (by kernel_rfl) (SQ.seqExit (by nofun) ?_)))))
         refine SQ.retE (P := Try.prog) (v := .tuple #[.agg #[.string ⟨#[]⟩, .slice none 0 0, .slice none 0 0, .slice none 0 0], .int .u32 0, .bool false]) (.inr rfl) (fun a ha => ?_) ?_
         ·exact res_c_t_t (by kernel_rfl) (ha.getD (t := 2) (v := .pointer (some ⟨g1, 0, none⟩)) (by kernel_rfl)) (ha.getD (t := 3) (v := .int .u32 0) (by kernel_rfl)) (ha.getD (t := 4) (v := .bool false) (by kernel_rfl)) (M74.ldBox 0 rfl Try.underlying26 rfl (by kernel_rfl))
         have eq9 := rest_steps hv4 hLi hv5 hLt hv6 hLo
         have eF := ofF_steps (x := (rRest8 s3).1) (s9 := s9) hsm hv2 hv3 hkey (by rw [← eq9.1])
         refine ⟨.inl ⟨?_, rfl⟩, M74.bel⟩
         rw [eF, if_neg]
         rintro ⟨q1, q2⟩
         rw [rhsz53] at q1
         have q1 : l.drop riz53 = [] := Option.some.inj q1
         have q3 : (l.drop riz53).length = 0 := by rw [q1]; rfl
         rw [List.length_drop] at q3
         have q4 := ph54
         omega
       ·skip
        refine SL.offs [5, 6, 7, 8, 9, 10, 11] (is := [12, 13, 14, 15, 16, 17]) rfl (by kernel_rfl) (SL.pick (d := 250) (v := .bool true) (by kernel_rfl) (SL.run (d := 251) (v := .bool true) (by kernel_rfl) (SL.offs [14, 15, 16] (is := [17]) rfl (by kernel_rfl) (SL.pick (d := 255) (v := .bool true) (by kernel_rfl) (SL.nil (SC.next ?_))))))
        refine SC.yes (by kernel_rfl) (SC.seq (by kernel_rfl) ?_)
        have M76 : Mem w w50 ([rw' oa os.length oc 42 6 (os.flatMap foD.cells), rw' ta ts.length tc 34 6 (ts.flatMap ftD.cells), rw' ia is.length ic 86 2 (is.flatMap impD.cells), bx g17 #[.string v2, .slice ia is.length ic, .slice ta ts.length tc, .slice oa os.length oc] 26, bx g5 #[.slice a l.length c, .int .i64 riz53, .bool true] 92] ++ (ts.map typR ++ os.map objR) ++ [bx g1 #[.string ⟨#[]⟩, .slice none 0 0, .slice none 0 0, .slice none 0 0] 26]) := Mem.frame M8 M52 rfl
        have M77 : Mem w w50 ([bx g1 #[.string ⟨#[]⟩, .slice none 0 0, .slice none 0 0, .slice none 0 0] 26, rw' oa os.length oc 42 6 (os.flatMap foD.cells), rw' ta ts.length tc 34 6 (ts.flatMap ftD.cells), rw' ia is.length ic 86 2 (is.flatMap impD.cells), bx g17 #[.string v2, .slice ia is.length ic, .slice ta ts.length tc, .slice oa os.length oc] 26, bx g5 #[.slice a l.length c, .int .i64 riz53, .bool true] 92] ++ (ts.map typR ++ os.map objR)) := Mem.permute M76 (List.perm_append_comm (l₂ := [bx g1 #[.string ⟨#[]⟩, .slice none 0 0, .slice none 0 0, .slice none 0 0] 26]))
        refine SC.region [0, 1, 2, 3] (by kernel_rfl) (by kernel_rfl) (SL.build (d := 256) (t := 26) (ps := []) (cs := #[.string ⟨#[]⟩, .slice none 0 0, .slice none 0 0, .slice none 0 0]) (by kernel_rfl) (by kernel_rfl) (SL.storeM (t := 26) (a := .pointer (some ⟨g1, 0, none⟩)) (v := .agg #[.string ⟨#[]⟩, .slice none 0 0, .slice none 0 0, .slice none 0 0]) (by kernel_rfl) (M77.stBox 0 rfl rfl (by kernel_rfl) rfl) ?_))
        intro w78 M79 hk80 shk80
        refine SL.run (d := 3) (v := .int .u32 0) (by kernel_rfl) (SL.run (d := 4) (v := .bool false) (by kernel_rfl) (SL.nil (SC.next (SC.ret (by kernel_rfl) (SQ.seqExit (by nofun) ?_)))))
        refine SQ.retE (P := Try.prog) (v := .tuple #[.agg #[.string ⟨#[]⟩, .slice none 0 0, .slice none 0 0, .slice none 0 0], .int .u32 0, .bool false]) (.inr rfl) (fun a ha => ?_) ?_
        ·exact res_c_t_t (by kernel_rfl) (ha.getD (t := 2) (v := .pointer (some ⟨g1, 0, none⟩)) (by kernel_rfl)) (ha.getD (t := 3) (v := .int .u32 0) (by kernel_rfl)) (ha.getD (t := 4) (v := .bool false) (by kernel_rfl)) (M79.ldBox 0 rfl Try.underlying26 rfl (by kernel_rfl))
        have eq9 := rest_steps hv4 hLi hv5 hLt hv6 hLo
        have eF := ofF_steps (x := (rRest8 s3).1) (s9 := s9) hsm hv2 hv3 hkey (by rw [← eq9.1])
        refine ⟨.inl ⟨?_, rfl⟩, M79.bel⟩
        rw [eF, if_neg]
        rintro ⟨q1, q2⟩
        rw [rhsz53] at q1
        cases q1
      ·skip
       intro Q81 ag82 ex83 pn84
       refine SC.seq (by kernel_rfl) (SC.region [0] (by kernel_rfl) (by kernel_rfl) (SL.run (d := 17) (v := .int .i64 0) (by kernel_rfl) (SL.nil (SC.next (SC.block (i := 6) (by kernel_rfl) ?_)))))
       have M85 : Mem ⟨w6, (· = g5)⟩ w46 ([rw' none 0 0 42 6 [], rw' ta ts.length tc 34 6 (ts.flatMap ftD.cells), rw' ia is.length ic 86 2 (is.flatMap impD.cells), bx g17 #[.string v2, .slice ia is.length ic, .slice ta ts.length tc, .slice none 0 0] 26, rrR ⟨a, c, l⟩ g5 s6] ++ (ts.map typR)) := Mem.addNil M48
       have M86 : Mem ⟨w6, (· = g5)⟩ w46 ([rw' none 0 0 42 6 [], rw' ta ts.length tc 34 6 (ts.flatMap ftD.cells), rw' ia is.length ic 86 2 (is.flatMap impD.cells), bx g17 #[.string v2, .slice ia is.length ic, .slice ta ts.length tc, .slice none 0 0] 26, rrR ⟨a, c, l⟩ g5 s6] ++ (ts.map typR ++ [].map objR)) := by have := M85; simpa using this
       refine SC.loopA (X := Nat × Option Addr × Nat × List FO × St) (fun x => [(0, .slice a l.length c), (2, .pointer (some ⟨g1, 0, none⟩)), (3, .int .u32 0), (4, .bool false), (5, .pointer (some ⟨g5, 0, none⟩)), (6, .int .u32 4294967295), (7, .pointer (some ⟨g17, 0, none⟩)), (8, .int .u32 v3), (9, .int .i64 v6), (17, .int .i64 ((x.1 : Nat) : Int))]) (fun x wr => Mem ⟨w6, (· = g5)⟩ wr ([rw' x.2.1 x.1 x.2.2.1 42 6 (x.2.2.2.1.flatMap foD.cells), rw' ta ts.length tc 34 6 (ts.flatMap ftD.cells), rw' ia is.length ic 86 2 (is.flatMap impD.cells), bx g17 #[.string v2, .slice ia is.length ic, .slice ta ts.length tc, .slice x.2.1 x.1 x.2.2.1] 26, rrR ⟨a, c, l⟩ g5 x.2.2.2.2] ++ (ts.map typR ++ x.2.2.2.1.map objR)) ∧ (x.2.2.2.1.length = x.1 ∧ x.1 ≤ v6 ∧ LoopI rObj8 x.1 s6 (x.2.2.2.1.map FO.d) x.2.2.2.2)) (fun x => v6 + 1 - x.1) (PanOk.block pn84) (by kernel_rfl) ⟨0, none, 0, [], s6⟩ (by kernel_rfl) ⟨M86, rfl, Nat.zero_le _, LoopI.zero _ _⟩ ?_
       rintro ⟨i3, oa, oc, os, si3⟩ w92 ⟨M93, hI87⟩ Q88 ag89 ex90 pn91
       replace M93 : Mem ⟨w6, (· = g5)⟩ w92 ([rw' oa i3 oc 42 6 (os.flatMap foD.cells), rw' ta ts.length tc 34 6 (ts.flatMap ftD.cells), rw' ia is.length ic 86 2 (is.flatMap impD.cells), bx g17 #[.string v2, .slice ia is.length ic, .slice ta ts.length tc, .slice oa i3 oc] 26, rrR ⟨a, c, l⟩ g5 si3] ++ (ts.map typR ++ os.map objR)) := M93
       replace hI87 : os.length = i3 ∧ i3 ≤ v6 ∧ LoopI rObj8 i3 s6 (os.map FO.d) si3 := hI87
       show SC _ _ _ _ _ [(0, .slice a l.length c), (2, .pointer (some ⟨g1, 0, none⟩)), (3, .int .u32 0), (4, .bool false), (5, .pointer (some ⟨g5, 0, none⟩)), (6, .int .u32 4294967295), (7, .pointer (some ⟨g17, 0, none⟩)), (8, .int .u32 v3), (9, .int .i64 v6), (17, .int .i64 i3)] _
       obtain ⟨hleno, hleo, hlpo⟩ := hI87
       refine SC.seq (by kernel_rfl) (SC.seq (by kernel_rfl) ?_)
       obtain ⟨riz95, rbz95, M94, rhiz95, rhsz95⟩ := M93.rrOpen 4 rfl
       dsimp only at rhiz95 rhsz95
       replace rhsz95 : si3 = stOf rbz95 (l.drop riz95) := rhsz95
       refine SC.region [0, 1, 2, 3, 4, 5, 6, 7, 8, 9] (by kernel_rfl) (by kernel_rfl) (SL.run (d := 161) (v := .int .i64 i3) (by kernel_rfl) (SL.run (d := 162) (v := .int .i64 v6) (by kernel_rfl) ?_))
       rcases Bool.eq_false_or_eq_true (decide (((i3 : Nat) : Int) < ((v6 : Nat) : Int))) with h96 | h96
       ·skip
        have ph96 : ((i3 : Nat) : Int) < ((v6 : Nat) : Int) := of_decide_eq_true h96
        refine SL.bool (d := 163) (x := (decide (((i3 : Nat) : Int) < ((v6 : Nat) : Int)))) (y := true) h96 (by kernel_rfl) (SL.run (d := 164) (v := .bool true) (by kernel_rfl) (SL.run (d := 165) (v := .pointer (some ⟨g5, 0, none⟩)) (by kernel_rfl) (SL.run (d := 166) (v := .pointer (some ⟨g5, 0, none⟩)) (by kernel_rfl) (SL.run (d := 167) (v := .pointer (some ⟨g5, 2, none⟩)) (by kernel_rfl) (SL.load (d := 168) (t := 4) (a := .pointer (some ⟨g5, 2, none⟩)) (v := .bool rbz95) (by kernel_rfl) (M94.ldCell 4 rfl (j := 2) (v := .bool rbz95) rfl Try.underlying4 rfl) ?_)))))
        cases rbz95
        ·skip
         refine SL.run (d := 169) (v := .bool true) (by kernel_rfl) (SL.pick (d := 170) (v := .bool true) (by kernel_rfl) (SL.nil ?_))
         have M97 := Mem.rrClose (D := ⟨a, c, l⟩) M94 4 rfl rhiz95 rhsz95
         refine SC.next (SC.yes (by kernel_rfl) (SC.skip (by kernel_rfl) (SC.next (SC.seq (by kernel_rfl) (SC.block (i := 7) (by kernel_rfl) (SC.seq (by kernel_rfl) ?_))))))
         refine SC.region [0, 1, 2, 3, 4] (by kernel_rfl) (by kernel_rfl) (SL.run (d := 173) (v := .pointer (some ⟨g5, 0, none⟩)) (by kernel_rfl) ?_)
         obtain ⟨v7, s7, hv7, bv7⟩ := rbyte_nat (HR.now M97 4 rfl)
         refine SL.call (d := 174) (f := 43) (vs := [.pointer (some ⟨g5, 0, none⟩)]) (by kernel_rfl) (by kernel_rfl) (by have := refByte_walk (HR.now M97 4 rfl); rw [hv7] at this; exact this) ?_
         rintro e w98 ⟨rfl, hR, hk⟩
         refine ⟨_, rfl, ?_⟩
         have M100 := M97.rrr 4 rfl hR hk
         refine SL.build (d := 175) (t := 42) (ps := [(0, .int .i64 v7)]) (cs := #[.int .i64 v7, .string ⟨#[]⟩, .int .i64 0, .int .i64 0, .int .u32 0, .slice none 0 0]) (by kernel_rfl) (by kernel_rfl) (SL.allocM (d := 18) (t := 42) (z := .agg #[.int .i64 0, .string ⟨#[]⟩, .int .i64 0, .int .i64 0, .int .u32 0, .slice none 0 0]) (cs := #[.int .i64 0, .string ⟨#[]⟩, .int .i64 0, .int .i64 0, .int .u32 0, .slice none 0 0]) M100 (by kernel_rfl) (by kernel_rfl) rfl ?_)
         intro g101 w102 hb103 ⟨bg101, lg101⟩ M104
         refine SL.storeM (t := 42) (a := .pointer (some ⟨g101, 0, none⟩)) (v := .agg #[.int .i64 v7, .string ⟨#[]⟩, .int .i64 0, .int .i64 0, .int .u32 0, .slice none 0 0]) (by kernel_rfl) (M104.stBox 0 rfl rfl (by kernel_rfl) rfl) ?_
         intro w105 M106 hk107 shk107
         refine SL.nil (SC.next (SC.seq (by kernel_rfl) (SC.region [0, 1, 2, 3] (by kernel_rfl) (by kernel_rfl) (SL.run (d := 176) (v := .pointer (some ⟨g5, 0, none⟩)) (by kernel_rfl) ?_))))
         obtain ⟨v8, s8, hv8⟩ : ∃ x y, rNm s7 = (x, y) := ⟨_, _, rfl⟩
         refine SL.call (d := 177) (f := 41) (vs := [.pointer (some ⟨g5, 0, none⟩)]) (by kernel_rfl) (by kernel_rfl) (by have := refNm_walk (HR.now M106 5 rfl) ha; rw [hv8] at this; exact this) ?_
         rintro e w108 ⟨rfl, hR, hk⟩
         refine ⟨_, rfl, ?_⟩
         have M110 := M106.rrr 5 rfl hR hk
         refine SL.run (d := 178) (v := .pointer (some ⟨g101, 1, none⟩)) (by kernel_rfl) (SL.storeM (t := 9) (a := .pointer (some ⟨g101, 1, none⟩)) (v := .string v8) (by kernel_rfl) (M110.st1 0 rfl 1 rfl 9 rfl (by kernel_rfl) rfl) ?_)
         intro w111 M112 hk113 shk113
         refine SL.nil (SC.next (SC.seq (by kernel_rfl) (SC.region [0, 1, 2, 3] (by kernel_rfl) (by kernel_rfl) (SL.run (d := 179) (v := .pointer (some ⟨g5, 0, none⟩)) (by kernel_rfl) ?_))))
         obtain ⟨v9, s9, hv9⟩ : ∃ x y, rRef s8 = (x, y) := ⟨_, _, rfl⟩
         refine SL.call (d := 180) (f := 44) (vs := [.pointer (some ⟨g5, 0, none⟩)]) (by kernel_rfl) (by kernel_rfl) (by have := refRf_walk (HR.now M112 5 rfl); rw [hv9] at this; exact this) ?_
         rintro e w114 ⟨rfl, hR, hk⟩
         refine ⟨_, rfl, ?_⟩
         have M116 := M112.rrr 5 rfl hR hk
         refine SL.run (d := 181) (v := .pointer (some ⟨g101, 2, none⟩)) (by kernel_rfl) (SL.storeM (t := 30) (a := .pointer (some ⟨g101, 2, none⟩)) (v := .agg #[.int .i64 v9.mod, .int .i64 v9.idx]) (by kernel_rfl) (M116.stPart 0 rfl 2 rfl (by kernel_rfl) rfl rfl) ?_)
         intro w117 M118 hk119 shk119
         refine SL.nil (SC.next (SC.seq (by kernel_rfl) (SC.seq (by kernel_rfl) (SC.region [0, 1, 2, 3, 4, 5, 6, 7] (by kernel_rfl) (by kernel_rfl) (SL.run (d := 182) (v := .pointer (some ⟨g101, 0, none⟩)) (by kernel_rfl) (SL.load (d := 183) (t := 38) (a := .pointer (some ⟨g101, 0, none⟩)) (v := .int .i64 v7) (by kernel_rfl) (M118.ldCell 0 rfl (j := 0) (v := .int .i64 v7) rfl Try.underlying38 rfl) ?_))))))
         rcases Bool.eq_false_or_eq_true (decide (((v7 : Nat) : Int) = (1 : Int))) with h120 | h120
         ·skip
          have ph120 : ((v7 : Nat) : Int) = (1 : Int) := of_decide_eq_true h120
          refine SL.bool (d := 184) (x := (((v7 : Nat) : Int) == (1 : Int))) (y := true) ((int_beq _ _).trans h120) (by kernel_rfl) (SL.run (d := 185) (v := .bool true) (by kernel_rfl) (SL.offs [4, 5, 6] (is := [7]) rfl (by kernel_rfl) (SL.pick (d := 189) (v := .bool true) (by kernel_rfl) (SL.nil (SC.next (SC.yes (by kernel_rfl) ?_))))))
          refine SC.region [0, 1, 2, 3, 4] (by kernel_rfl) (by kernel_rfl) (SL.run (d := 190) (v := .pointer (some ⟨g5, 0, none⟩)) (by kernel_rfl) (SL.run (d := 191) (v := .int .u32 4294967295) (by kernel_rfl) ?_))
          obtain ⟨v10, s10, hv10, bv10⟩ := rnum_nat (HR.now M118 5 rfl) 4294967295 (by decide)
          have ahv10 := hv10
          rw [rNum_all (HR.now M118 5 rfl).sb] at hv10
          refine SL.call (d := 192) (f := 42) (vs := [.pointer (some ⟨g5, 0, none⟩), .int .u32 4294967295]) (by kernel_rfl) (by kernel_rfl) (by have := refWord8_walk (HR.now M118 5 rfl) 4294967295 (by decide) (by decide); rw [ahv10] at this; exact this) ?_
          rintro e w121 ⟨rfl, hR, hk⟩
          refine ⟨_, rfl, ?_⟩
          have M123 := M118.rrr 5 rfl hR hk
          refine SL.run (d := 193) (v := .pointer (some ⟨g101, 4, none⟩)) (by kernel_rfl) (SL.storeM (t := 39) (a := .pointer (some ⟨g101, 4, none⟩)) (v := .int .u32 v10) (by kernel_rfl) (M123.st1 0 rfl 4 rfl 39 rfl (by kernel_rfl) rfl) ?_)
          intro w124 M125 hk126 shk126
          refine SL.nil (SC.next (SC.seq (by kernel_rfl) (SC.seq (by kernel_rfl) (SC.region [0, 1, 2] (by kernel_rfl) (by kernel_rfl) (SL.run (d := 194) (v := .pointer (some ⟨g101, 0, none⟩)) (by kernel_rfl) (SL.load (d := 195) (t := 38) (a := .pointer (some ⟨g101, 0, none⟩)) (v := .int .i64 v7) (by kernel_rfl) (M125.ldCell 0 rfl (j := 0) (v := .int .i64 v7) rfl Try.underlying38 rfl) ?_))))))
          rcases Bool.eq_false_or_eq_true (decide (((v7 : Nat) : Int) = (4 : Int))) with h127 | h127
          ·skip
           have ph127 : ((v7 : Nat) : Int) = (4 : Int) := of_decide_eq_true h127
           omega
          ·skip
           have ph127 : ¬ (((v7 : Nat) : Int) = (4 : Int)) := of_decide_eq_false h127
           refine SL.bool (d := 196) (x := (((v7 : Nat) : Int) == (4 : Int))) (y := false) ((int_beq _ _).trans h127) (by kernel_rfl) (SL.nil (SC.next (SC.no (by kernel_rfl) (SC.skip (by kernel_rfl) (SC.next (SC.region [0, 1, 2, 3, 4, 5, 6] (by kernel_rfl) (by kernel_rfl) ?_))))))
           refine SL.run (d := 232) (v := .pointer (some ⟨g17, 3, none⟩)) (by kernel_rfl) (SL.load (d := 233) (t := 24) (a := .pointer (some ⟨g17, 3, none⟩)) (v := .slice oa i3 oc) (by kernel_rfl) (M125.ldCell 4 rfl (j := 3) (v := .slice oa i3 oc) rfl Try.underlying24 rfl) (SL.load (d := 234) (t := 42) (a := .pointer (some ⟨g101, 0, none⟩)) (v := .agg #[.int .i64 v7, .string v8, .int .i64 v9.mod, .int .i64 v9.idx, .int .u32 v10, .slice none 0 0]) (by kernel_rfl) (M125.ldBox 0 rfl Try.underlying42 rfl (by kernel_rfl)) (SL.buildSliceM (d := 235) (t := 24) (e := 42) (len := 1) (size := 6) (z := .agg #[.int .i64 0, .string ⟨#[]⟩, .int .i64 0, .int .i64 0, .int .u32 0, .slice none 0 0]) (ps := [(0, .agg #[.int .i64 v7, .string v8, .int .i64 v9.mod, .int .i64 v9.idx, .int .u32 v10, .slice none 0 0])]) (cs := #[.int .i64 v7, .string v8, .int .i64 v9.mod, .int .i64 v9.idx, .int .u32 v10, .slice none 0 0]) M125 (by kernel_rfl) Try.underlying24 (by kernel_rfl) rfl rfl (by kernel_rfl) ?_)))
           intro g128 w129 hb130 ⟨bg128, lg128⟩ M131
           refine SL.appendM (d := 236) (ts := [24, 24]) (ty := 24) (vs := [.slice oa i3 oc, .slice (some ⟨g128, 0, none⟩) 1 1]) (k' := i3 + 1) (by kernel_rfl) (Mem.append (m := 1) (news := [.int .i64 v7, .string v8, .int .i64 v9.mod, .int .i64 v9.idx, .int .u32 v10, .slice none 0 0]) M131 2 rfl (ET.of Try.underlying24 (by kernel_rfl) (by decide) (by decide) : ET Try.prog 24 42 (.agg #[.int .i64 0, .string ⟨#[]⟩, .int .i64 0, .int .i64 0, .int .u32 0, .slice none 0 0]) 6 72) (rd_box M131 0 rfl (by kernel_rfl) rfl) rfl (by intro u hu; simp only [List.mem_cons, List.not_mem_nil, or_false] at hu; rcases hu with rfl | rfl | rfl | rfl | rfl | rfl <;> rfl) (by omega) (by omega) (by omega)) ?_
           intro a132 c133 w134 M135 hk136
           refine SL.run (d := 237) (v := .pointer (some ⟨g17, 3, none⟩)) (by kernel_rfl) (SL.storeM (t := 24) (a := .pointer (some ⟨g17, 3, none⟩)) (v := .slice a132 (i3 + 1) c133) (by kernel_rfl) (M135.st1 5 rfl 3 rfl 24 rfl (by kernel_rfl) rfl) ?_)
           intro w137 M138 hk139 shk139
           refine SL.nil (SQ.blockNormal (SC.next ?_))
           have eh : rHead8 si3 = ((((v7 : Int), v8, v9) : Int × ByteArray × Rf), s9) := by unfold rHead8; rw [hv7]; dsimp only; rw [hv8]; dsimp only; rw [hv9]
           refine SC.region [0, 1, 2] (by kernel_rfl) (by kernel_rfl) (SL.run (d := 171) (v := .int .i64 i3) (by kernel_rfl) (SL.int (d := 172) (q := .i64) (x := IntKind.wrap .i64 (((i3 : Nat) : Int) + (1 : Int))) (y := ((i3 + 1 : Nat) : Int)) (wr64 (by omega) (by omega) (by omega)) (by kernel_rfl) (SL.run (d := 17) (v := .int .i64 ((i3 + 1 : Nat) : Int)) (by kernel_rfl) (SL.nil ?_))))
           have es : StepI rObj8 si3 ((⟨((v7 : Nat) : Int), v8, ⟨v9.mod, v9.idx⟩, ((v10 : Nat) : Int), ⟨none, 0, []⟩⟩ : FO) : FO).d s10 := StepI.of (by unfold rObj8; rw [eh]; dsimp only; rw [show rTail8 (v7 : Int) s9 = rValue s9 from if_pos (.inl ph120)]; unfold rValue; rw [hv10]; rfl)
           have ex : (os.flatMap foD.cells) ++ [.int .i64 v7, .string v8, .int .i64 v9.mod, .int .i64 v9.idx, .int .u32 v10, .slice none 0 0] = (os ++ [(⟨((v7 : Nat) : Int), v8, ⟨v9.mod, v9.idx⟩, ((v10 : Nat) : Int), ⟨none, 0, []⟩⟩ : FO)]).flatMap foD.cells := by rw [List.flatMap_append]; rfl
           rw [ex] at M138
           have M140 : Mem ⟨w6, (· = g5)⟩ w137 (objR ((⟨((v7 : Nat) : Int), v8, ⟨v9.mod, v9.idx⟩, ((v10 : Nat) : Int), ⟨none, 0, []⟩⟩ : FO) : FO) :: ([bx g128 #[.int .i64 v7, .string v8, .int .i64 v9.mod, .int .i64 v9.idx, .int .u32 v10, .slice none 0 0] 42, bx g101 #[.int .i64 v7, .string v8, .int .i64 v9.mod, .int .i64 v9.idx, .int .u32 v10, .slice none 0 0] 42, rw' a132 (i3 + 1) c133 42 6 ((os ++ [(⟨((v7 : Nat) : Int), v8, ⟨v9.mod, v9.idx⟩, ((v10 : Nat) : Int), ⟨none, 0, []⟩⟩ : FO)]).flatMap foD.cells), rw' ta ts.length tc 34 6 (ts.flatMap ftD.cells), rw' ia is.length ic 86 2 (is.flatMap impD.cells), bx g17 #[.string v2, .slice ia is.length ic, .slice ta ts.length tc, .slice a132 (i3 + 1) c133] 26, rrR ⟨a, c, l⟩ g5 s10] ++ (ts.map typR ++ os.map objR))) := Mem.addNil M138
           have M141 := Mem.toEnd M140 (L' := ([bx g128 #[.int .i64 v7, .string v8, .int .i64 v9.mod, .int .i64 v9.idx, .int .u32 v10, .slice none 0 0] 42, bx g101 #[.int .i64 v7, .string v8, .int .i64 v9.mod, .int .i64 v9.idx, .int .u32 v10, .slice none 0 0] 42, rw' a132 (i3 + 1) c133 42 6 ((os ++ [(⟨((v7 : Nat) : Int), v8, ⟨v9.mod, v9.idx⟩, ((v10 : Nat) : Int), ⟨none, 0, []⟩⟩ : FO)]).flatMap foD.cells), rw' ta ts.length tc 34 6 (ts.flatMap ftD.cells), rw' ia is.length ic 86 2 (is.flatMap impD.cells), bx g17 #[.string v2, .slice ia is.length ic, .slice ta ts.length tc, .slice a132 (i3 + 1) c133] 26, rrR ⟨a, c, l⟩ g5 s10]) ++ (ts.map typR ++ (os ++ [(⟨((v7 : Nat) : Int), v8, ⟨v9.mod, v9.idx⟩, ((v10 : Nat) : Int), ⟨none, 0, []⟩⟩ : FO)]).map objR)) tail_obj
           have M142 := Mem.dropN M141 2 (L' := [rw' a132 (i3 + 1) c133 42 6 ((os ++ [(⟨((v7 : Nat) : Int), v8, ⟨v9.mod, v9.idx⟩, ((v10 : Nat) : Int), ⟨none, 0, []⟩⟩ : FO)]).flatMap foD.cells), rw' ta ts.length tc 34 6 (ts.flatMap ftD.cells), rw' ia is.length ic 86 2 (is.flatMap impD.cells), bx g17 #[.string v2, .slice ia is.length ic, .slice ta ts.length tc, .slice a132 (i3 + 1) c133] 26, rrR ⟨a, c, l⟩ g5 s10] ++ (ts.map typR ++ (os ++ [(⟨((v7 : Nat) : Int), v8, ⟨v9.mod, v9.idx⟩, ((v10 : Nat) : Int), ⟨none, 0, []⟩⟩ : FO)]).map objR)) rfl
           exact ag89 ⟨i3 + 1, a132, c133, os ++ [(⟨((v7 : Nat) : Int), v8, ⟨v9.mod, v9.idx⟩, ((v10 : Nat) : Int), ⟨none, 0, []⟩⟩ : FO)], s10⟩ (by kernel_rfl) ⟨M142, by rw [List.length_append, hleno]; rfl, by omega, by rw [List.map_append]; exact hlpo.next rObj8_reads.bad es⟩ (by omega)
         ·skip
          have ph120 : ¬ (((v7 : Nat) : Int) = (1 : Int)) := of_decide_eq_false h120
          refine SL.bool (d := 184) (x := (((v7 : Nat) : Int) == (1 : Int))) (y := false) ((int_beq _ _).trans h120) (by kernel_rfl) (SL.run (d := 185) (v := .bool false) (by kernel_rfl) (SL.run (d := 186) (v := .pointer (some ⟨g101, 0, none⟩)) (by kernel_rfl) (SL.load (d := 187) (t := 38) (a := .pointer (some ⟨g101, 0, none⟩)) (v := .int .i64 v7) (by kernel_rfl) (M118.ldCell 0 rfl (j := 0) (v := .int .i64 v7) rfl Try.underlying38 rfl) ?_)))
          rcases Bool.eq_false_or_eq_true (decide (((v7 : Nat) : Int) = (3 : Int))) with h143 | h143
          ·skip
           have ph143 : ((v7 : Nat) : Int) = (3 : Int) := of_decide_eq_true h143
           refine SL.bool (d := 188) (x := (((v7 : Nat) : Int) == (3 : Int))) (y := true) ((int_beq _ _).trans h143) (by kernel_rfl) (SL.pick (d := 189) (v := .bool true) (by kernel_rfl) (SL.nil (SC.next (SC.yes (by kernel_rfl) (SC.region [0, 1, 2, 3, 4] (by kernel_rfl) (by kernel_rfl) (SL.run (d := 190) (v := .pointer (some ⟨g5, 0, none⟩)) (by kernel_rfl) ?_))))))
           refine SL.run (d := 191) (v := .int .u32 4294967295) (by kernel_rfl) ?_
           obtain ⟨v11, s11, hv11, bv11⟩ := rnum_nat (HR.now M118 5 rfl) 4294967295 (by decide)
           have ahv11 := hv11
           rw [rNum_all (HR.now M118 5 rfl).sb] at hv11
           refine SL.call (d := 192) (f := 42) (vs := [.pointer (some ⟨g5, 0, none⟩), .int .u32 4294967295]) (by kernel_rfl) (by kernel_rfl) (by have := refWord8_walk (HR.now M118 5 rfl) 4294967295 (by decide) (by decide); rw [ahv11] at this; exact this) ?_
           rintro e w144 ⟨rfl, hR, hk⟩
           refine ⟨_, rfl, ?_⟩
           have M146 := M118.rrr 5 rfl hR hk
           refine SL.run (d := 193) (v := .pointer (some ⟨g101, 4, none⟩)) (by kernel_rfl) (SL.storeM (t := 39) (a := .pointer (some ⟨g101, 4, none⟩)) (v := .int .u32 v11) (by kernel_rfl) (M146.st1 0 rfl 4 rfl 39 rfl (by kernel_rfl) rfl) ?_)
           intro w147 M148 hk149 shk149
           refine SL.nil (SC.next (SC.seq (by kernel_rfl) (SC.seq (by kernel_rfl) (SC.region [0, 1, 2] (by kernel_rfl) (by kernel_rfl) (SL.run (d := 194) (v := .pointer (some ⟨g101, 0, none⟩)) (by kernel_rfl) (SL.load (d := 195) (t := 38) (a := .pointer (some ⟨g101, 0, none⟩)) (v := .int .i64 v7) (by kernel_rfl) (M148.ldCell 0 rfl (j := 0) (v := .int .i64 v7) rfl Try.underlying38 rfl) ?_))))))
           rcases Bool.eq_false_or_eq_true (decide (((v7 : Nat) : Int) = (4 : Int))) with h150 | h150
           ·skip
            have ph150 : ((v7 : Nat) : Int) = (4 : Int) := of_decide_eq_true h150
            omega
           ·skip
            have ph150 : ¬ (((v7 : Nat) : Int) = (4 : Int)) := of_decide_eq_false h150
            refine SL.bool (d := 196) (x := (((v7 : Nat) : Int) == (4 : Int))) (y := false) ((int_beq _ _).trans h150) (by kernel_rfl) (SL.nil (SC.next (SC.no (by kernel_rfl) (SC.skip (by kernel_rfl) (SC.next (SC.region [0, 1, 2, 3, 4, 5, 6] (by kernel_rfl) (by kernel_rfl) ?_))))))
            refine SL.run (d := 232) (v := .pointer (some ⟨g17, 3, none⟩)) (by kernel_rfl) (SL.load (d := 233) (t := 24) (a := .pointer (some ⟨g17, 3, none⟩)) (v := .slice oa i3 oc) (by kernel_rfl) (M148.ldCell 4 rfl (j := 3) (v := .slice oa i3 oc) rfl Try.underlying24 rfl) (SL.load (d := 234) (t := 42) (a := .pointer (some ⟨g101, 0, none⟩)) (v := .agg #[.int .i64 v7, .string v8, .int .i64 v9.mod, .int .i64 v9.idx, .int .u32 v11, .slice none 0 0]) (by kernel_rfl) (M148.ldBox 0 rfl Try.underlying42 rfl (by kernel_rfl)) (SL.buildSliceM (d := 235) (t := 24) (e := 42) (len := 1) (size := 6) (z := .agg #[.int .i64 0, .string ⟨#[]⟩, .int .i64 0, .int .i64 0, .int .u32 0, .slice none 0 0]) (ps := [(0, .agg #[.int .i64 v7, .string v8, .int .i64 v9.mod, .int .i64 v9.idx, .int .u32 v11, .slice none 0 0])]) (cs := #[.int .i64 v7, .string v8, .int .i64 v9.mod, .int .i64 v9.idx, .int .u32 v11, .slice none 0 0]) M148 (by kernel_rfl) Try.underlying24 (by kernel_rfl) rfl rfl (by kernel_rfl) ?_)))
            intro g151 w152 hb153 ⟨bg151, lg151⟩ M154
            refine SL.appendM (d := 236) (ts := [24, 24]) (ty := 24) (vs := [.slice oa i3 oc, .slice (some ⟨g151, 0, none⟩) 1 1]) (k' := i3 + 1) (by kernel_rfl) (Mem.append (m := 1) (news := [.int .i64 v7, .string v8, .int .i64 v9.mod, .int .i64 v9.idx, .int .u32 v11, .slice none 0 0]) M154 2 rfl (ET.of Try.underlying24 (by kernel_rfl) (by decide) (by decide) : ET Try.prog 24 42 (.agg #[.int .i64 0, .string ⟨#[]⟩, .int .i64 0, .int .i64 0, .int .u32 0, .slice none 0 0]) 6 72) (rd_box M154 0 rfl (by kernel_rfl) rfl) rfl (by intro u hu; simp only [List.mem_cons, List.not_mem_nil, or_false] at hu; rcases hu with rfl | rfl | rfl | rfl | rfl | rfl <;> rfl) (by omega) (by omega) (by omega)) ?_
            intro a155 c156 w157 M158 hk159
            refine SL.run (d := 237) (v := .pointer (some ⟨g17, 3, none⟩)) (by kernel_rfl) (SL.storeM (t := 24) (a := .pointer (some ⟨g17, 3, none⟩)) (v := .slice a155 (i3 + 1) c156) (by kernel_rfl) (M158.st1 5 rfl 3 rfl 24 rfl (by kernel_rfl) rfl) ?_)
            intro w160 M161 hk162 shk162
            refine SL.nil (SQ.blockNormal (SC.next ?_))
            have eh : rHead8 si3 = ((((v7 : Int), v8, v9) : Int × ByteArray × Rf), s9) := by unfold rHead8; rw [hv7]; dsimp only; rw [hv8]; dsimp only; rw [hv9]
            refine SC.region [0, 1, 2] (by kernel_rfl) (by kernel_rfl) (SL.run (d := 171) (v := .int .i64 i3) (by kernel_rfl) (SL.int (d := 172) (q := .i64) (x := IntKind.wrap .i64 (((i3 : Nat) : Int) + (1 : Int))) (y := ((i3 + 1 : Nat) : Int)) (wr64 (by omega) (by omega) (by omega)) (by kernel_rfl) (SL.run (d := 17) (v := .int .i64 ((i3 + 1 : Nat) : Int)) (by kernel_rfl) (SL.nil ?_))))
            have es : StepI rObj8 si3 ((⟨((v7 : Nat) : Int), v8, ⟨v9.mod, v9.idx⟩, ((v11 : Nat) : Int), ⟨none, 0, []⟩⟩ : FO) : FO).d s11 := StepI.of (by unfold rObj8; rw [eh]; dsimp only; rw [show rTail8 (v7 : Int) s9 = rValue s9 from if_pos (.inr ph143)]; unfold rValue; rw [hv11]; rfl)
            have ex : (os.flatMap foD.cells) ++ [.int .i64 v7, .string v8, .int .i64 v9.mod, .int .i64 v9.idx, .int .u32 v11, .slice none 0 0] = (os ++ [(⟨((v7 : Nat) : Int), v8, ⟨v9.mod, v9.idx⟩, ((v11 : Nat) : Int), ⟨none, 0, []⟩⟩ : FO)]).flatMap foD.cells := by rw [List.flatMap_append]; rfl
            rw [ex] at M161
            have M163 : Mem ⟨w6, (· = g5)⟩ w160 (objR ((⟨((v7 : Nat) : Int), v8, ⟨v9.mod, v9.idx⟩, ((v11 : Nat) : Int), ⟨none, 0, []⟩⟩ : FO) : FO) :: ([bx g151 #[.int .i64 v7, .string v8, .int .i64 v9.mod, .int .i64 v9.idx, .int .u32 v11, .slice none 0 0] 42, bx g101 #[.int .i64 v7, .string v8, .int .i64 v9.mod, .int .i64 v9.idx, .int .u32 v11, .slice none 0 0] 42, rw' a155 (i3 + 1) c156 42 6 ((os ++ [(⟨((v7 : Nat) : Int), v8, ⟨v9.mod, v9.idx⟩, ((v11 : Nat) : Int), ⟨none, 0, []⟩⟩ : FO)]).flatMap foD.cells), rw' ta ts.length tc 34 6 (ts.flatMap ftD.cells), rw' ia is.length ic 86 2 (is.flatMap impD.cells), bx g17 #[.string v2, .slice ia is.length ic, .slice ta ts.length tc, .slice a155 (i3 + 1) c156] 26, rrR ⟨a, c, l⟩ g5 s11] ++ (ts.map typR ++ os.map objR))) := Mem.addNil M161
            have M164 := Mem.toEnd M163 (L' := ([bx g151 #[.int .i64 v7, .string v8, .int .i64 v9.mod, .int .i64 v9.idx, .int .u32 v11, .slice none 0 0] 42, bx g101 #[.int .i64 v7, .string v8, .int .i64 v9.mod, .int .i64 v9.idx, .int .u32 v11, .slice none 0 0] 42, rw' a155 (i3 + 1) c156 42 6 ((os ++ [(⟨((v7 : Nat) : Int), v8, ⟨v9.mod, v9.idx⟩, ((v11 : Nat) : Int), ⟨none, 0, []⟩⟩ : FO)]).flatMap foD.cells), rw' ta ts.length tc 34 6 (ts.flatMap ftD.cells), rw' ia is.length ic 86 2 (is.flatMap impD.cells), bx g17 #[.string v2, .slice ia is.length ic, .slice ta ts.length tc, .slice a155 (i3 + 1) c156] 26, rrR ⟨a, c, l⟩ g5 s11]) ++ (ts.map typR ++ (os ++ [(⟨((v7 : Nat) : Int), v8, ⟨v9.mod, v9.idx⟩, ((v11 : Nat) : Int), ⟨none, 0, []⟩⟩ : FO)]).map objR)) tail_obj
            have M165 := Mem.dropN M164 2 (L' := [rw' a155 (i3 + 1) c156 42 6 ((os ++ [(⟨((v7 : Nat) : Int), v8, ⟨v9.mod, v9.idx⟩, ((v11 : Nat) : Int), ⟨none, 0, []⟩⟩ : FO)]).flatMap foD.cells), rw' ta ts.length tc 34 6 (ts.flatMap ftD.cells), rw' ia is.length ic 86 2 (is.flatMap impD.cells), bx g17 #[.string v2, .slice ia is.length ic, .slice ta ts.length tc, .slice a155 (i3 + 1) c156] 26, rrR ⟨a, c, l⟩ g5 s11] ++ (ts.map typR ++ (os ++ [(⟨((v7 : Nat) : Int), v8, ⟨v9.mod, v9.idx⟩, ((v11 : Nat) : Int), ⟨none, 0, []⟩⟩ : FO)]).map objR)) rfl
            exact ag89 ⟨i3 + 1, a155, c156, os ++ [(⟨((v7 : Nat) : Int), v8, ⟨v9.mod, v9.idx⟩, ((v11 : Nat) : Int), ⟨none, 0, []⟩⟩ : FO)], s11⟩ (by kernel_rfl) ⟨M165, by rw [List.length_append, hleno]; rfl, by omega, by rw [List.map_append]; exact hlpo.next rObj8_reads.bad es⟩ (by omega)
          ·skip
           have ph143 : ¬ (((v7 : Nat) : Int) = (3 : Int)) := of_decide_eq_false h143
           refine SL.bool (d := 188) (x := (((v7 : Nat) : Int) == (3 : Int))) (y := false) ((int_beq _ _).trans h143) (by kernel_rfl) (SL.pick (d := 189) (v := .bool false) (by kernel_rfl) (SL.nil (SC.next (SC.no (by kernel_rfl) (SC.skip (by kernel_rfl) (SC.next ?_))))))
           refine SC.seq (by kernel_rfl) (SC.seq (by kernel_rfl) (SC.region [0, 1, 2] (by kernel_rfl) (by kernel_rfl) (SL.run (d := 194) (v := .pointer (some ⟨g101, 0, none⟩)) (by kernel_rfl) (SL.load (d := 195) (t := 38) (a := .pointer (some ⟨g101, 0, none⟩)) (v := .int .i64 v7) (by kernel_rfl) (M118.ldCell 0 rfl (j := 0) (v := .int .i64 v7) rfl Try.underlying38 rfl) ?_))))
           rcases Bool.eq_false_or_eq_true (decide (((v7 : Nat) : Int) = (4 : Int))) with h166 | h166
           ·skip
            have ph166 : ((v7 : Nat) : Int) = (4 : Int) := of_decide_eq_true h166
            refine SL.bool (d := 196) (x := (((v7 : Nat) : Int) == (4 : Int))) (y := true) ((int_beq _ _).trans h166) (by kernel_rfl) (SL.nil (SC.next (SC.yes (by kernel_rfl) (SC.seq (by kernel_rfl) (SC.region [0, 1, 2, 3, 4] (by kernel_rfl) (by kernel_rfl) (SL.run (d := 197) (v := .pointer (some ⟨g5, 0, none⟩)) (by kernel_rfl) ?_))))))
            obtain ⟨v12, s12, hv12, bv12⟩ := rbyte_nat (HR.now M118 5 rfl)
            refine SL.call (d := 198) (f := 43) (vs := [.pointer (some ⟨g5, 0, none⟩)]) (by kernel_rfl) (by kernel_rfl) (by have := refByte_walk (HR.now M118 5 rfl); rw [hv12] at this; exact this) ?_
            rintro e w167 ⟨rfl, hR, hk⟩
            refine ⟨_, rfl, ?_⟩
            have M169 := M118.rrr 5 rfl hR hk
            refine SL.int (d := 199) (q := .u32) (x := IntKind.wrap .u32 ((v12 : Nat) : Int)) (y := ((v12 : Nat) : Int)) (wr32 (by omega) (by omega) (by omega)) (by kernel_rfl) (SL.run (d := 200) (v := .pointer (some ⟨g101, 4, none⟩)) (by kernel_rfl) (SL.storeM (t := 39) (a := .pointer (some ⟨g101, 4, none⟩)) (v := .int .u32 v12) (by kernel_rfl) (M169.st1 0 rfl 4 rfl 39 rfl (by kernel_rfl) rfl) ?_))
            intro w170 M171 hk172 shk172
            refine SL.nil (SC.next (SC.seq (by kernel_rfl) (SC.region [0, 1, 2] (by kernel_rfl) (by kernel_rfl) (SL.run (d := 201) (v := .pointer (some ⟨g5, 0, none⟩)) (by kernel_rfl) ?_))))
            obtain ⟨v13, s13, hv13, bv13⟩ := rbyte_nat (HR.now M171 5 rfl)
            refine SL.call (d := 202) (f := 43) (vs := [.pointer (some ⟨g5, 0, none⟩)]) (by kernel_rfl) (by kernel_rfl) (by have := refByte_walk (HR.now M171 5 rfl); rw [hv13] at this; exact this) ?_
            rintro e w173 ⟨rfl, hR, hk⟩
            refine ⟨_, rfl, ?_⟩
            have M175 := M171.rrr 5 rfl hR hk
            refine SL.run (d := 19) (v := .int .i64 v13) (by kernel_rfl) (SL.nil (SC.next (SC.seq (by kernel_rfl) (SC.region [0] (by kernel_rfl) (by kernel_rfl) (SL.run (d := 20) (v := .int .i64 0) (by kernel_rfl) (SL.nil ?_))))))
            refine SC.next (SC.block (i := 8) (by kernel_rfl) ?_)
            have M176 : Mem ⟨w6, (· = g5)⟩ w173 ([rw' none 0 0 97 3 [], bx g101 #[.int .i64 v7, .string v8, .int .i64 v9.mod, .int .i64 v9.idx, .int .u32 v12, .slice none 0 0] 42, rw' oa i3 oc 42 6 (os.flatMap foD.cells), rw' ta ts.length tc 34 6 (ts.flatMap ftD.cells), rw' ia is.length ic 86 2 (is.flatMap impD.cells), bx g17 #[.string v2, .slice ia is.length ic, .slice ta ts.length tc, .slice oa i3 oc] 26, rrR ⟨a, c, l⟩ g5 s13] ++ (ts.map typR ++ os.map objR)) := Mem.addNil M175
            refine SC.loopA (X := Nat × Option Addr × Nat × List Prm × St) (fun x => [(0, .slice a l.length c), (2, .pointer (some ⟨g1, 0, none⟩)), (3, .int .u32 0), (4, .bool false), (5, .pointer (some ⟨g5, 0, none⟩)), (6, .int .u32 4294967295), (7, .pointer (some ⟨g17, 0, none⟩)), (8, .int .u32 v3), (9, .int .i64 v6), (17, .int .i64 i3), (18, .pointer (some ⟨g101, 0, none⟩)), (19, .int .i64 v13), (20, .int .i64 ((x.1 : Nat) : Int)), (161, .int .i64 i3), (162, .int .i64 v6), (163, .bool true), (164, .bool true), (165, .pointer (some ⟨g5, 0, none⟩)), (166, .pointer (some ⟨g5, 0, none⟩)), (167, .pointer (some ⟨g5, 2, none⟩)), (168, .bool false), (169, .bool true), (170, .bool true), (173, .pointer (some ⟨g5, 0, none⟩)), (174, .int .i64 v7), (175, .agg #[.int .i64 v7, .string ⟨#[]⟩, .int .i64 0, .int .i64 0, .int .u32 0, .slice none 0 0]), (176, .pointer (some ⟨g5, 0, none⟩)), (177, .string v8), (178, .pointer (some ⟨g101, 1, none⟩)), (179, .pointer (some ⟨g5, 0, none⟩)), (180, .agg #[.int .i64 v9.mod, .int .i64 v9.idx]), (181, .pointer (some ⟨g101, 2, none⟩)), (182, .pointer (some ⟨g101, 0, none⟩)), (183, .int .i64 v7), (184, .bool false), (185, .bool false), (186, .pointer (some ⟨g101, 0, none⟩)), (187, .int .i64 v7), (188, .bool false), (189, .bool false), (194, .pointer (some ⟨g101, 0, none⟩)), (195, .int .i64 v7), (196, .bool true), (197, .pointer (some ⟨g5, 0, none⟩)), (198, .int .i64 v12), (199, .int .u32 v12), (200, .pointer (some ⟨g101, 4, none⟩)), (201, .pointer (some ⟨g5, 0, none⟩)), (202, .int .i64 v13)]) (fun x wr => Mem ⟨w6, (· = g5)⟩ wr ([rw' x.2.1 x.1 x.2.2.1 97 3 (x.2.2.2.1.flatMap Prm.cells), bx g101 #[.int .i64 v7, .string v8, .int .i64 v9.mod, .int .i64 v9.idx, .int .u32 v12, .slice x.2.1 x.1 x.2.2.1] 42, rw' oa i3 oc 42 6 (os.flatMap foD.cells), rw' ta ts.length tc 34 6 (ts.flatMap ftD.cells), rw' ia is.length ic 86 2 (is.flatMap impD.cells), bx g17 #[.string v2, .slice ia is.length ic, .slice ta ts.length tc, .slice oa i3 oc] 26, rrR ⟨a, c, l⟩ g5 x.2.2.2.2] ++ (ts.map typR ++ os.map objR)) ∧ (x.2.2.2.1.length = x.1 ∧ x.1 ≤ v13 ∧ LoopI rPrm x.1 s13 (x.2.2.2.1) x.2.2.2.2)) (fun x => v13 + 1 - x.1) (PanOk.block (PanOk.seq (PanOk.block (PanOk.seq pn91)))) (by kernel_rfl) ⟨0, none, 0, [], s13⟩ (by kernel_rfl) ⟨M176, rfl, Nat.zero_le _, LoopI.zero _ _⟩ ?_
            rintro ⟨i5, pa, pc, ps, si5⟩ w182 ⟨M183, hI177⟩ Q178 ag179 ex180 pn181
            replace M183 : Mem ⟨w6, (· = g5)⟩ w182 ([rw' pa i5 pc 97 3 (ps.flatMap Prm.cells), bx g101 #[.int .i64 v7, .string v8, .int .i64 v9.mod, .int .i64 v9.idx, .int .u32 v12, .slice pa i5 pc] 42, rw' oa i3 oc 42 6 (os.flatMap foD.cells), rw' ta ts.length tc 34 6 (ts.flatMap ftD.cells), rw' ia is.length ic 86 2 (is.flatMap impD.cells), bx g17 #[.string v2, .slice ia is.length ic, .slice ta ts.length tc, .slice oa i3 oc] 26, rrR ⟨a, c, l⟩ g5 si5] ++ (ts.map typR ++ os.map objR)) := M183
            replace hI177 : ps.length = i5 ∧ i5 ≤ v13 ∧ LoopI rPrm i5 s13 (ps) si5 := hI177
            show SC _ _ _ _ _ [(0, .slice a l.length c), (2, .pointer (some ⟨g1, 0, none⟩)), (3, .int .u32 0), (4, .bool false), (5, .pointer (some ⟨g5, 0, none⟩)), (6, .int .u32 4294967295), (7, .pointer (some ⟨g17, 0, none⟩)), (8, .int .u32 v3), (9, .int .i64 v6), (17, .int .i64 i3), (18, .pointer (some ⟨g101, 0, none⟩)), (19, .int .i64 v13), (20, .int .i64 i5), (161, .int .i64 i3), (162, .int .i64 v6), (163, .bool true), (164, .bool true), (165, .pointer (some ⟨g5, 0, none⟩)), (166, .pointer (some ⟨g5, 0, none⟩)), (167, .pointer (some ⟨g5, 2, none⟩)), (168, .bool false), (169, .bool true), (170, .bool true), (173, .pointer (some ⟨g5, 0, none⟩)), (174, .int .i64 v7), (175, .agg #[.int .i64 v7, .string ⟨#[]⟩, .int .i64 0, .int .i64 0, .int .u32 0, .slice none 0 0]), (176, .pointer (some ⟨g5, 0, none⟩)), (177, .string v8), (178, .pointer (some ⟨g101, 1, none⟩)), (179, .pointer (some ⟨g5, 0, none⟩)), (180, .agg #[.int .i64 v9.mod, .int .i64 v9.idx]), (181, .pointer (some ⟨g101, 2, none⟩)), (182, .pointer (some ⟨g101, 0, none⟩)), (183, .int .i64 v7), (184, .bool false), (185, .bool false), (186, .pointer (some ⟨g101, 0, none⟩)), (187, .int .i64 v7), (188, .bool false), (189, .bool false), (194, .pointer (some ⟨g101, 0, none⟩)), (195, .int .i64 v7), (196, .bool true), (197, .pointer (some ⟨g5, 0, none⟩)), (198, .int .i64 v12), (199, .int .u32 v12), (200, .pointer (some ⟨g101, 4, none⟩)), (201, .pointer (some ⟨g5, 0, none⟩)), (202, .int .i64 v13)] _
            obtain ⟨hlenp, hlep, hlpp⟩ := hI177
            refine SC.seq (by kernel_rfl) (SC.seq (by kernel_rfl) ?_)
            obtain ⟨riz185, rbz185, M184, rhiz185, rhsz185⟩ := M183.rrOpen 6 rfl
            dsimp only at rhiz185 rhsz185
            replace rhsz185 : si5 = stOf rbz185 (l.drop riz185) := rhsz185
            refine SC.region [0, 1, 2, 3, 4, 5, 6, 7, 8, 9] (by kernel_rfl) (by kernel_rfl) (SL.run (d := 203) (v := .int .i64 i5) (by kernel_rfl) (SL.run (d := 204) (v := .int .i64 v13) (by kernel_rfl) ?_))
            rcases Bool.eq_false_or_eq_true (decide (((i5 : Nat) : Int) < ((v13 : Nat) : Int))) with h186 | h186
            ·skip
             have ph186 : ((i5 : Nat) : Int) < ((v13 : Nat) : Int) := of_decide_eq_true h186
             refine SL.bool (d := 205) (x := (decide (((i5 : Nat) : Int) < ((v13 : Nat) : Int)))) (y := true) h186 (by kernel_rfl) (SL.run (d := 206) (v := .bool true) (by kernel_rfl) (SL.run (d := 207) (v := .pointer (some ⟨g5, 0, none⟩)) (by kernel_rfl) (SL.run (d := 208) (v := .pointer (some ⟨g5, 0, none⟩)) (by kernel_rfl) (SL.run (d := 209) (v := .pointer (some ⟨g5, 2, none⟩)) (by kernel_rfl) (SL.load (d := 210) (t := 4) (a := .pointer (some ⟨g5, 2, none⟩)) (v := .bool rbz185) (by kernel_rfl) (M184.ldCell 6 rfl (j := 2) (v := .bool rbz185) rfl Try.underlying4 rfl) ?_)))))
             cases rbz185
             ·skip
              refine SL.run (d := 211) (v := .bool true) (by kernel_rfl) (SL.pick (d := 212) (v := .bool true) (by kernel_rfl) (SL.nil ?_))
              have M187 := Mem.rrClose (D := ⟨a, c, l⟩) M184 6 rfl rhiz185 rhsz185
              refine SC.next (SC.yes (by kernel_rfl) (SC.skip (by kernel_rfl) (SC.next (SC.seq (by kernel_rfl) (SC.block (i := 9) (by kernel_rfl) (SC.seq (by kernel_rfl) ?_))))))
              refine SC.region [0, 1, 2] (by kernel_rfl) (by kernel_rfl) (SL.run (d := 215) (v := .pointer (some ⟨g5, 0, none⟩)) (by kernel_rfl) ?_)
              obtain ⟨v14, s14, hv14, bv14⟩ := rbyte_nat (HR.now M187 6 rfl)
              refine SL.call (d := 216) (f := 43) (vs := [.pointer (some ⟨g5, 0, none⟩)]) (by kernel_rfl) (by kernel_rfl) (by have := refByte_walk (HR.now M187 6 rfl); rw [hv14] at this; exact this) ?_
              rintro e w188 ⟨rfl, hR, hk⟩
              refine ⟨_, rfl, ?_⟩
              have M190 := M187.rrr 6 rfl hR hk
              refine SL.run (d := 21) (v := .int .i64 v14) (by kernel_rfl) (SL.nil (SC.next (SC.seq (by kernel_rfl) (SC.seq (by kernel_rfl) (SC.region [0, 1] (by kernel_rfl) (by kernel_rfl) (SL.run (d := 217) (v := .int .i64 v14) (by kernel_rfl) ?_))))))
              rcases Bool.eq_false_or_eq_true (decide ((1 : Int) < ((v14 : Nat) : Int))) with h191 | h191
              ·skip
               have ph191 : (1 : Int) < ((v14 : Nat) : Int) := of_decide_eq_true h191
               refine SL.bool (d := 218) (x := (decide ((1 : Int) < ((v14 : Nat) : Int)))) (y := true) h191 (by kernel_rfl) (SL.nil (SC.next (SC.yes (by kernel_rfl) ?_)))
               obtain ⟨riz193, rbz193, M192, rhiz193, rhsz193⟩ := M190.rrOpen 6 rfl
               dsimp only at rhiz193 rhsz193
               replace rhsz193 : s14 = stOf rbz193 (l.drop riz193) := rhsz193
               refine SC.region [0, 1, 2, 3] (by kernel_rfl) (by kernel_rfl) (SL.run (d := 219) (v := .pointer (some ⟨g5, 0, none⟩)) (by kernel_rfl) (SL.run (d := 220) (v := .pointer (some ⟨g5, 0, none⟩)) (by kernel_rfl) (SL.run (d := 221) (v := .pointer (some ⟨g5, 2, none⟩)) (by kernel_rfl) (SL.storeM (t := 4) (a := .pointer (some ⟨g5, 2, none⟩)) (v := .bool true) (by kernel_rfl) (M192.st1 6 rfl 2 rfl 4 rfl (by kernel_rfl) rfl) ?_))))
               intro w194 M195 hk196 shk196
               refine SL.nil ?_
               have M197 := Mem.rrClose (D := ⟨a, c, l⟩) (s := none) M195 6 rfl rhiz193 rfl
               refine SC.next ?_
               obtain ⟨G198, hG199⟩ : ∃ G : Nat → Prop, G = GK w194 ([rw' pa i5 pc 97 3 (ps.flatMap Prm.cells), bx g101 #[.int .i64 v7, .string v8, .int .i64 v9.mod, .int .i64 v9.idx, .int .u32 v12, .slice pa i5 pc] 42, rw' oa i3 oc 42 6 (os.flatMap foD.cells), rw' ta ts.length tc 34 6 (ts.flatMap ftD.cells), rw' ia is.length ic 86 2 (is.flatMap impD.cells), bx g17 #[.string v2, .slice ia is.length ic, .slice ta ts.length tc, .slice oa i3 oc] 26, rrR ⟨a, c, l⟩ g5 none] ++ (ts.map typR ++ os.map objR)) [0, 2, 3, 4, 6] := ⟨_, rfl⟩
               refine SC.tail G198 [([0, 1, 2, 3, 4], 5), ([6], 7), ([], 8)] [9] 10 [9, 8, 7, 6, 5, 4, 3, 2, 1, 0] (by kernel_rfl) (by kernel_rfl) (by kernel_rfl) (PanOk.block (PanOk.seq pn181)) ?_
               intro w200 hb201
               have M202 := M197.call hb201
               have acc203 : Ke G198 w194 w200 := Ke.below _ hb201
               refine ST.step (SU.run (d := 222) (v := .pointer (some ⟨g101, 5, none⟩)) (fun y hy => by kernel_rfl) (SU.load (d := 223) (t := 40) (b := .pointer (some ⟨g101, 5, none⟩)) (v := .slice pa i5 pc) (by kernel_rfl) (fun y hy => ((Mem.alone M197 hG199 1 rfl (by decide) (Ke.trans acc203 hy)).ldCell 0 rfl (j := 5) (v := .slice pa i5 pc) rfl Try.underlying40 rfl)) (SU.run (d := 224) (v := .int .i64 v14) (fun y hy => by kernel_rfl) ?_)))
               rcases Bool.eq_false_or_eq_true (decide (((v14 : Nat) : Int) = (1 : Int))) with h204 | h204
               ·skip
                have ph204 : ((v14 : Nat) : Int) = (1 : Int) := of_decide_eq_true h204
                refine SU.bool (d := 225) (x := (((v14 : Nat) : Int) == (1 : Int))) (z := true) ((int_beq _ _).trans h204) (fun y hy => by kernel_rfl) (SU.run (d := 226) (v := .pointer (some ⟨g5, 0, none⟩)) (fun y hy => by kernel_rfl) (SU.go ?_))
                obtain ⟨v15, s15, hv15⟩ : ∃ x y, rRef none = (x, y) := ⟨_, _, rfl⟩
                refine SL.call (d := 227) (f := 44) (vs := [.pointer (some ⟨g5, 0, none⟩)]) (by kernel_rfl) (by kernel_rfl) (by have := refRf_walk (HR.now M202 6 rfl); rw [hv15] at this; exact this) ?_
                rintro e w205 ⟨rfl, hR, hk⟩
                refine ⟨_, rfl, ?_⟩
                have M207 := M202.rrr 6 rfl hR hk
                have ke208 : Ke G198 _ _ := Ke.mono hk (fun i _ e => GK.own hG199 6 (by decide) rfl e)
                have acc209 := Ke.trans acc203 ke208
                refine SL.nil (ST.back ke208 (ST.step (SU.build (d := 228) (t := 97) (ps := [(0, .bool true), (1, .agg #[.int .i64 v15.mod, .int .i64 v15.idx])]) (cs := #[.bool true, .int .i64 v15.mod, .int .i64 v15.idx]) (by kernel_rfl) (by kernel_rfl) (SU.go (SL.buildSliceM (d := 229) (t := 40) (e := 97) (len := 1) (size := 3) (z := .agg #[.bool false, .int .i64 0, .int .i64 0]) (ps := [(0, .agg #[.bool true, .int .i64 v15.mod, .int .i64 v15.idx])]) (cs := #[.bool true, .int .i64 v15.mod, .int .i64 v15.idx]) M207 (by kernel_rfl) Try.underlying40 (by kernel_rfl) rfl rfl (by kernel_rfl) ?_)))))
                intro g210 w211 hb212 ⟨bg210, lg210⟩ M213
                have ke214 : Ke G198 _ _ := Ke.below _ hb212
                have ng210 : G198 g210 := GK.new hG199 (Nat.le_trans (Ke.size acc209) bg210)
                have acc215 := Ke.trans acc209 ke214
                refine SL.nil (ST.back ke214 (ST.step (SU.go (SL.appendM (d := 230) (ts := [40, 40]) (ty := 40) (vs := [.slice pa i5 pc, .slice (some ⟨g210, 0, none⟩) 1 1]) (k' := i5 + 1) (by kernel_rfl) (Mem.append (m := 1) (news := [.bool true, .int .i64 v15.mod, .int .i64 v15.idx]) M213 1 rfl (ET.of Try.underlying40 (by kernel_rfl) (by decide) (by decide) : ET Try.prog 40 97 (.agg #[.bool false, .int .i64 0, .int .i64 0]) 3 24) (rd_box M213 0 rfl (by kernel_rfl) rfl) rfl (by intro u hu; simp only [List.mem_cons, List.not_mem_nil, or_false] at hu; rcases hu with rfl | rfl | rfl <;> rfl) (by omega) (by omega) (by omega)) ?_))))
                intro a216 c217 w218 M219 hk220
                have ke221 : Ke G198 _ _ := Ke.mono hk220 (fun i _ e => GK.own hG199 0 (by decide) rfl e)
                have acc222 := Ke.trans acc215 ke221
                refine SL.nil (ST.back ke221 (ST.last (SU.run (d := 231) (v := .pointer (some ⟨g101, 5, none⟩)) (fun y hy => by kernel_rfl) (SU.go (SL.storeM (t := 40) (a := .pointer (some ⟨g101, 5, none⟩)) (v := .slice a216 (i5 + 1) c217) (by kernel_rfl) (M219.st1 2 rfl 5 rfl 40 rfl (by kernel_rfl) rfl) ?_)))))
                intro w223 M224 hk225 shk225
                refine SL.nil (ST.done (SQ.blockNormal (SC.next ?_)))
                have hvar : rVar si5 = (true, none) := by unfold rVar; rw [hv14]; dsimp only; rw [if_pos ph191, int_beq, decide_eq_true ph204]
                refine SC.region [0, 1, 2] (by kernel_rfl) (by kernel_rfl) (SL.run (d := 213) (v := .int .i64 i5) (by kernel_rfl) (SL.int (d := 214) (q := .i64) (x := IntKind.wrap .i64 (((i5 : Nat) : Int) + (1 : Int))) (y := ((i5 + 1 : Nat) : Int)) (wr64 (by omega) (by omega) (by omega)) (by kernel_rfl) (SL.run (d := 20) (v := .int .i64 ((i5 + 1 : Nat) : Int)) (by kernel_rfl) (SL.nil ?_))))
                have es : StepI rPrm si5 ((⟨true, v15⟩ : Prm)) s15 := StepI.of (by unfold rPrm; rw [hvar]; dsimp only; rw [hv15])
                have ex : (ps.flatMap Prm.cells) ++ [.bool true, .int .i64 v15.mod, .int .i64 v15.idx] = (ps ++ [(⟨true, v15⟩ : Prm)]).flatMap Prm.cells := by rw [List.flatMap_append]; rfl
                rw [ex] at M224
                have M226 := Mem.dropN M224 1 (L' := [rw' a216 (i5 + 1) c217 97 3 ((ps ++ [(⟨true, v15⟩ : Prm)]).flatMap Prm.cells), bx g101 #[.int .i64 v7, .string v8, .int .i64 v9.mod, .int .i64 v9.idx, .int .u32 v12, .slice a216 (i5 + 1) c217] 42, rw' oa i3 oc 42 6 (os.flatMap foD.cells), rw' ta ts.length tc 34 6 (ts.flatMap ftD.cells), rw' ia is.length ic 86 2 (is.flatMap impD.cells), bx g17 #[.string v2, .slice ia is.length ic, .slice ta ts.length tc, .slice oa i3 oc] 26, rrR ⟨a, c, l⟩ g5 s15] ++ (ts.map typR ++ os.map objR)) rfl
                exact ag179 ⟨i5 + 1, a216, c217, ps ++ [(⟨true, v15⟩ : Prm)], s15⟩ (by kernel_rfl) ⟨M226, by rw [List.length_append, hlenp]; rfl, by omega, by exact hlpp.next rPrm_reads.bad es⟩ (by omega)
               ·skip
                have ph204 : ¬ (((v14 : Nat) : Int) = (1 : Int)) := of_decide_eq_false h204
                refine SU.bool (d := 225) (x := (((v14 : Nat) : Int) == (1 : Int))) (z := false) ((int_beq _ _).trans h204) (fun y hy => by kernel_rfl) (SU.run (d := 226) (v := .pointer (some ⟨g5, 0, none⟩)) (fun y hy => by kernel_rfl) (SU.go ?_))
                obtain ⟨v16, s16, hv16⟩ : ∃ x y, rRef none = (x, y) := ⟨_, _, rfl⟩
                refine SL.call (d := 227) (f := 44) (vs := [.pointer (some ⟨g5, 0, none⟩)]) (by kernel_rfl) (by kernel_rfl) (by have := refRf_walk (HR.now M202 6 rfl); rw [hv16] at this; exact this) ?_
                rintro e w227 ⟨rfl, hR, hk⟩
                refine ⟨_, rfl, ?_⟩
                have M229 := M202.rrr 6 rfl hR hk
                have ke230 : Ke G198 _ _ := Ke.mono hk (fun i _ e => GK.own hG199 6 (by decide) rfl e)
                have acc231 := Ke.trans acc203 ke230
                refine SL.nil (ST.back ke230 (ST.step (SU.build (d := 228) (t := 97) (ps := [(0, .bool false), (1, .agg #[.int .i64 v16.mod, .int .i64 v16.idx])]) (cs := #[.bool false, .int .i64 v16.mod, .int .i64 v16.idx]) (by kernel_rfl) (by kernel_rfl) (SU.go (SL.buildSliceM (d := 229) (t := 40) (e := 97) (len := 1) (size := 3) (z := .agg #[.bool false, .int .i64 0, .int .i64 0]) (ps := [(0, .agg #[.bool false, .int .i64 v16.mod, .int .i64 v16.idx])]) (cs := #[.bool false, .int .i64 v16.mod, .int .i64 v16.idx]) M229 (by kernel_rfl) Try.underlying40 (by kernel_rfl) rfl rfl (by kernel_rfl) ?_)))))
                intro g232 w233 hb234 ⟨bg232, lg232⟩ M235
                have ke236 : Ke G198 _ _ := Ke.below _ hb234
                have ng232 : G198 g232 := GK.new hG199 (Nat.le_trans (Ke.size acc231) bg232)
                have acc237 := Ke.trans acc231 ke236
                refine SL.nil (ST.back ke236 (ST.step (SU.go (SL.appendM (d := 230) (ts := [40, 40]) (ty := 40) (vs := [.slice pa i5 pc, .slice (some ⟨g232, 0, none⟩) 1 1]) (k' := i5 + 1) (by kernel_rfl) (Mem.append (m := 1) (news := [.bool false, .int .i64 v16.mod, .int .i64 v16.idx]) M235 1 rfl (ET.of Try.underlying40 (by kernel_rfl) (by decide) (by decide) : ET Try.prog 40 97 (.agg #[.bool false, .int .i64 0, .int .i64 0]) 3 24) (rd_box M235 0 rfl (by kernel_rfl) rfl) rfl (by intro u hu; simp only [List.mem_cons, List.not_mem_nil, or_false] at hu; rcases hu with rfl | rfl | rfl <;> rfl) (by omega) (by omega) (by omega)) ?_))))
                intro a238 c239 w240 M241 hk242
                have ke243 : Ke G198 _ _ := Ke.mono hk242 (fun i _ e => GK.own hG199 0 (by decide) rfl e)
                have acc244 := Ke.trans acc237 ke243
                refine SL.nil (ST.back ke243 (ST.last (SU.run (d := 231) (v := .pointer (some ⟨g101, 5, none⟩)) (fun y hy => by kernel_rfl) (SU.go (SL.storeM (t := 40) (a := .pointer (some ⟨g101, 5, none⟩)) (v := .slice a238 (i5 + 1) c239) (by kernel_rfl) (M241.st1 2 rfl 5 rfl 40 rfl (by kernel_rfl) rfl) ?_)))))
                intro w245 M246 hk247 shk247
                refine SL.nil (ST.done (SQ.blockNormal (SC.next ?_)))
                have hvar : rVar si5 = (false, none) := by unfold rVar; rw [hv14]; dsimp only; rw [if_pos ph191, int_beq, decide_eq_false ph204]
                refine SC.region [0, 1, 2] (by kernel_rfl) (by kernel_rfl) (SL.run (d := 213) (v := .int .i64 i5) (by kernel_rfl) (SL.int (d := 214) (q := .i64) (x := IntKind.wrap .i64 (((i5 : Nat) : Int) + (1 : Int))) (y := ((i5 + 1 : Nat) : Int)) (wr64 (by omega) (by omega) (by omega)) (by kernel_rfl) (SL.run (d := 20) (v := .int .i64 ((i5 + 1 : Nat) : Int)) (by kernel_rfl) (SL.nil ?_))))
                have es : StepI rPrm si5 ((⟨false, v16⟩ : Prm)) s16 := StepI.of (by unfold rPrm; rw [hvar]; dsimp only; rw [hv16])
                have ex : (ps.flatMap Prm.cells) ++ [.bool false, .int .i64 v16.mod, .int .i64 v16.idx] = (ps ++ [(⟨false, v16⟩ : Prm)]).flatMap Prm.cells := by rw [List.flatMap_append]; rfl
                rw [ex] at M246
                have M248 := Mem.dropN M246 1 (L' := [rw' a238 (i5 + 1) c239 97 3 ((ps ++ [(⟨false, v16⟩ : Prm)]).flatMap Prm.cells), bx g101 #[.int .i64 v7, .string v8, .int .i64 v9.mod, .int .i64 v9.idx, .int .u32 v12, .slice a238 (i5 + 1) c239] 42, rw' oa i3 oc 42 6 (os.flatMap foD.cells), rw' ta ts.length tc 34 6 (ts.flatMap ftD.cells), rw' ia is.length ic 86 2 (is.flatMap impD.cells), bx g17 #[.string v2, .slice ia is.length ic, .slice ta ts.length tc, .slice oa i3 oc] 26, rrR ⟨a, c, l⟩ g5 s16] ++ (ts.map typR ++ os.map objR)) rfl
                exact ag179 ⟨i5 + 1, a238, c239, ps ++ [(⟨false, v16⟩ : Prm)], s16⟩ (by kernel_rfl) ⟨M248, by rw [List.length_append, hlenp]; rfl, by omega, by exact hlpp.next rPrm_reads.bad es⟩ (by omega)
              ·skip
               have ph191 : ¬ ((1 : Int) < ((v14 : Nat) : Int)) := of_decide_eq_false h191
               refine SL.bool (d := 218) (x := (decide ((1 : Int) < ((v14 : Nat) : Int)))) (y := false) h191 (by kernel_rfl) (SL.nil (SC.next (SC.no (by kernel_rfl) (SC.skip (by kernel_rfl) (SC.next ?_)))))
               obtain ⟨G249, hG250⟩ : ∃ G : Nat → Prop, G = GK w188 ([rw' pa i5 pc 97 3 (ps.flatMap Prm.cells), bx g101 #[.int .i64 v7, .string v8, .int .i64 v9.mod, .int .i64 v9.idx, .int .u32 v12, .slice pa i5 pc] 42, rw' oa i3 oc 42 6 (os.flatMap foD.cells), rw' ta ts.length tc 34 6 (ts.flatMap ftD.cells), rw' ia is.length ic 86 2 (is.flatMap impD.cells), bx g17 #[.string v2, .slice ia is.length ic, .slice ta ts.length tc, .slice oa i3 oc] 26, rrR ⟨a, c, l⟩ g5 s14] ++ (ts.map typR ++ os.map objR)) [0, 2, 3, 4, 6] := ⟨_, rfl⟩
               refine SC.tail G249 [([0, 1, 2, 3, 4], 5), ([6], 7), ([], 8)] [9] 10 [9, 8, 7, 6, 5, 4, 3, 2, 1, 0] (by kernel_rfl) (by kernel_rfl) (by kernel_rfl) (PanOk.block (PanOk.seq pn181)) ?_
               intro w251 hb252
               have M253 := M190.call hb252
               have acc254 : Ke G249 w188 w251 := Ke.below _ hb252
               refine ST.step (SU.run (d := 222) (v := .pointer (some ⟨g101, 5, none⟩)) (fun y hy => by kernel_rfl) (SU.load (d := 223) (t := 40) (b := .pointer (some ⟨g101, 5, none⟩)) (v := .slice pa i5 pc) (by kernel_rfl) (fun y hy => ((Mem.alone M190 hG250 1 rfl (by decide) (Ke.trans acc254 hy)).ldCell 0 rfl (j := 5) (v := .slice pa i5 pc) rfl Try.underlying40 rfl)) (SU.run (d := 224) (v := .int .i64 v14) (fun y hy => by kernel_rfl) ?_)))
               rcases Bool.eq_false_or_eq_true (decide (((v14 : Nat) : Int) = (1 : Int))) with h255 | h255
               ·skip
                have ph255 : ((v14 : Nat) : Int) = (1 : Int) := of_decide_eq_true h255
                refine SU.bool (d := 225) (x := (((v14 : Nat) : Int) == (1 : Int))) (z := true) ((int_beq _ _).trans h255) (fun y hy => by kernel_rfl) (SU.run (d := 226) (v := .pointer (some ⟨g5, 0, none⟩)) (fun y hy => by kernel_rfl) (SU.go ?_))
                obtain ⟨v17, s17, hv17⟩ : ∃ x y, rRef s14 = (x, y) := ⟨_, _, rfl⟩
                refine SL.call (d := 227) (f := 44) (vs := [.pointer (some ⟨g5, 0, none⟩)]) (by kernel_rfl) (by kernel_rfl) (by have := refRf_walk (HR.now M253 6 rfl); rw [hv17] at this; exact this) ?_
                rintro e w256 ⟨rfl, hR, hk⟩
                refine ⟨_, rfl, ?_⟩
                have M258 := M253.rrr 6 rfl hR hk
                have ke259 : Ke G249 _ _ := Ke.mono hk (fun i _ e => GK.own hG250 6 (by decide) rfl e)
                have acc260 := Ke.trans acc254 ke259
                refine SL.nil (ST.back ke259 (ST.step (SU.build (d := 228) (t := 97) (ps := [(0, .bool true), (1, .agg #[.int .i64 v17.mod, .int .i64 v17.idx])]) (cs := #[.bool true, .int .i64 v17.mod, .int .i64 v17.idx]) (by kernel_rfl) (by kernel_rfl) (SU.go (SL.buildSliceM (d := 229) (t := 40) (e := 97) (len := 1) (size := 3) (z := .agg #[.bool false, .int .i64 0, .int .i64 0]) (ps := [(0, .agg #[.bool true, .int .i64 v17.mod, .int .i64 v17.idx])]) (cs := #[.bool true, .int .i64 v17.mod, .int .i64 v17.idx]) M258 (by kernel_rfl) Try.underlying40 (by kernel_rfl) rfl rfl (by kernel_rfl) ?_)))))
                intro g261 w262 hb263 ⟨bg261, lg261⟩ M264
                have ke265 : Ke G249 _ _ := Ke.below _ hb263
                have ng261 : G249 g261 := GK.new hG250 (Nat.le_trans (Ke.size acc260) bg261)
                have acc266 := Ke.trans acc260 ke265
                refine SL.nil (ST.back ke265 (ST.step (SU.go (SL.appendM (d := 230) (ts := [40, 40]) (ty := 40) (vs := [.slice pa i5 pc, .slice (some ⟨g261, 0, none⟩) 1 1]) (k' := i5 + 1) (by kernel_rfl) (Mem.append (m := 1) (news := [.bool true, .int .i64 v17.mod, .int .i64 v17.idx]) M264 1 rfl (ET.of Try.underlying40 (by kernel_rfl) (by decide) (by decide) : ET Try.prog 40 97 (.agg #[.bool false, .int .i64 0, .int .i64 0]) 3 24) (rd_box M264 0 rfl (by kernel_rfl) rfl) rfl (by intro u hu; simp only [List.mem_cons, List.not_mem_nil, or_false] at hu; rcases hu with rfl | rfl | rfl <;> rfl) (by omega) (by omega) (by omega)) ?_))))
                intro a267 c268 w269 M270 hk271
                have ke272 : Ke G249 _ _ := Ke.mono hk271 (fun i _ e => GK.own hG250 0 (by decide) rfl e)
                have acc273 := Ke.trans acc266 ke272
                refine SL.nil (ST.back ke272 (ST.last (SU.run (d := 231) (v := .pointer (some ⟨g101, 5, none⟩)) (fun y hy => by kernel_rfl) (SU.go (SL.storeM (t := 40) (a := .pointer (some ⟨g101, 5, none⟩)) (v := .slice a267 (i5 + 1) c268) (by kernel_rfl) (M270.st1 2 rfl 5 rfl 40 rfl (by kernel_rfl) rfl) ?_)))))
                intro w274 M275 hk276 shk276
                refine SL.nil (ST.done (SQ.blockNormal (SC.next ?_)))
                have hvar : rVar si5 = (true, s14) := by unfold rVar; rw [hv14]; dsimp only; rw [if_neg ph191, int_beq, decide_eq_true ph255]
                refine SC.region [0, 1, 2] (by kernel_rfl) (by kernel_rfl) (SL.run (d := 213) (v := .int .i64 i5) (by kernel_rfl) (SL.int (d := 214) (q := .i64) (x := IntKind.wrap .i64 (((i5 : Nat) : Int) + (1 : Int))) (y := ((i5 + 1 : Nat) : Int)) (wr64 (by omega) (by omega) (by omega)) (by kernel_rfl) (SL.run (d := 20) (v := .int .i64 ((i5 + 1 : Nat) : Int)) (by kernel_rfl) (SL.nil ?_))))
                have es : StepI rPrm si5 ((⟨true, v17⟩ : Prm)) s17 := StepI.of (by unfold rPrm; rw [hvar]; dsimp only; rw [hv17])
                have ex : (ps.flatMap Prm.cells) ++ [.bool true, .int .i64 v17.mod, .int .i64 v17.idx] = (ps ++ [(⟨true, v17⟩ : Prm)]).flatMap Prm.cells := by rw [List.flatMap_append]; rfl
                rw [ex] at M275
                have M277 := Mem.dropN M275 1 (L' := [rw' a267 (i5 + 1) c268 97 3 ((ps ++ [(⟨true, v17⟩ : Prm)]).flatMap Prm.cells), bx g101 #[.int .i64 v7, .string v8, .int .i64 v9.mod, .int .i64 v9.idx, .int .u32 v12, .slice a267 (i5 + 1) c268] 42, rw' oa i3 oc 42 6 (os.flatMap foD.cells), rw' ta ts.length tc 34 6 (ts.flatMap ftD.cells), rw' ia is.length ic 86 2 (is.flatMap impD.cells), bx g17 #[.string v2, .slice ia is.length ic, .slice ta ts.length tc, .slice oa i3 oc] 26, rrR ⟨a, c, l⟩ g5 s17] ++ (ts.map typR ++ os.map objR)) rfl
                exact ag179 ⟨i5 + 1, a267, c268, ps ++ [(⟨true, v17⟩ : Prm)], s17⟩ (by kernel_rfl) ⟨M277, by rw [List.length_append, hlenp]; rfl, by omega, by exact hlpp.next rPrm_reads.bad es⟩ (by omega)
               ·skip
                have ph255 : ¬ (((v14 : Nat) : Int) = (1 : Int)) := of_decide_eq_false h255
                refine SU.bool (d := 225) (x := (((v14 : Nat) : Int) == (1 : Int))) (z := false) ((int_beq _ _).trans h255) (fun y hy => by kernel_rfl) (SU.run (d := 226) (v := .pointer (some ⟨g5, 0, none⟩)) (fun y hy => by kernel_rfl) (SU.go ?_))
                obtain ⟨v18, s18, hv18⟩ : ∃ x y, rRef s14 = (x, y) := ⟨_, _, rfl⟩
                refine SL.call (d := 227) (f := 44) (vs := [.pointer (some ⟨g5, 0, none⟩)]) (by kernel_rfl) (by kernel_rfl) (by have := refRf_walk (HR.now M253 6 rfl); rw [hv18] at this; exact this) ?_
                rintro e w278 ⟨rfl, hR, hk⟩
                refine ⟨_, rfl, ?_⟩
                have M280 := M253.rrr 6 rfl hR hk
                have ke281 : Ke G249 _ _ := Ke.mono hk (fun i _ e => GK.own hG250 6 (by decide) rfl e)
                have acc282 := Ke.trans acc254 ke281
                refine SL.nil (ST.back ke281 (ST.step (SU.build (d := 228) (t := 97) (ps := [(0, .bool false), (1, .agg #[.int .i64 v18.mod, .int .i64 v18.idx])]) (cs := #[.bool false, .int .i64 v18.mod, .int .i64 v18.idx]) (by kernel_rfl) (by kernel_rfl) (SU.go (SL.buildSliceM (d := 229) (t := 40) (e := 97) (len := 1) (size := 3) (z := .agg #[.bool false, .int .i64 0, .int .i64 0]) (ps := [(0, .agg #[.bool false, .int .i64 v18.mod, .int .i64 v18.idx])]) (cs := #[.bool false, .int .i64 v18.mod, .int .i64 v18.idx]) M280 (by kernel_rfl) Try.underlying40 (by kernel_rfl) rfl rfl (by kernel_rfl) ?_)))))
                intro g283 w284 hb285 ⟨bg283, lg283⟩ M286
                have ke287 : Ke G249 _ _ := Ke.below _ hb285
                have ng283 : G249 g283 := GK.new hG250 (Nat.le_trans (Ke.size acc282) bg283)
                have acc288 := Ke.trans acc282 ke287
                refine SL.nil (ST.back ke287 (ST.step (SU.go (SL.appendM (d := 230) (ts := [40, 40]) (ty := 40) (vs := [.slice pa i5 pc, .slice (some ⟨g283, 0, none⟩) 1 1]) (k' := i5 + 1) (by kernel_rfl) (Mem.append (m := 1) (news := [.bool false, .int .i64 v18.mod, .int .i64 v18.idx]) M286 1 rfl (ET.of Try.underlying40 (by kernel_rfl) (by decide) (by decide) : ET Try.prog 40 97 (.agg #[.bool false, .int .i64 0, .int .i64 0]) 3 24) (rd_box M286 0 rfl (by kernel_rfl) rfl) rfl (by intro u hu; simp only [List.mem_cons, List.not_mem_nil, or_false] at hu; rcases hu with rfl | rfl | rfl <;> rfl) (by omega) (by omega) (by omega)) ?_))))
                intro a289 c290 w291 M292 hk293
                have ke294 : Ke G249 _ _ := Ke.mono hk293 (fun i _ e => GK.own hG250 0 (by decide) rfl e)
                have acc295 := Ke.trans acc288 ke294
                refine SL.nil (ST.back ke294 (ST.last (SU.run (d := 231) (v := .pointer (some ⟨g101, 5, none⟩)) (fun y hy => by kernel_rfl) (SU.go (SL.storeM (t := 40) (a := .pointer (some ⟨g101, 5, none⟩)) (v := .slice a289 (i5 + 1) c290) (by kernel_rfl) (M292.st1 2 rfl 5 rfl 40 rfl (by kernel_rfl) rfl) ?_)))))
                intro w296 M297 hk298 shk298
                refine SL.nil (ST.done (SQ.blockNormal (SC.next ?_)))
                have hvar : rVar si5 = (false, s14) := by unfold rVar; rw [hv14]; dsimp only; rw [if_neg ph191, int_beq, decide_eq_false ph255]
                refine SC.region [0, 1, 2] (by kernel_rfl) (by kernel_rfl) (SL.run (d := 213) (v := .int .i64 i5) (by kernel_rfl) (SL.int (d := 214) (q := .i64) (x := IntKind.wrap .i64 (((i5 : Nat) : Int) + (1 : Int))) (y := ((i5 + 1 : Nat) : Int)) (wr64 (by omega) (by omega) (by omega)) (by kernel_rfl) (SL.run (d := 20) (v := .int .i64 ((i5 + 1 : Nat) : Int)) (by kernel_rfl) (SL.nil ?_))))
                have es : StepI rPrm si5 ((⟨false, v18⟩ : Prm)) s18 := StepI.of (by unfold rPrm; rw [hvar]; dsimp only; rw [hv18])
                have ex : (ps.flatMap Prm.cells) ++ [.bool false, .int .i64 v18.mod, .int .i64 v18.idx] = (ps ++ [(⟨false, v18⟩ : Prm)]).flatMap Prm.cells := by rw [List.flatMap_append]; rfl
                rw [ex] at M297
                have M299 := Mem.dropN M297 1 (L' := [rw' a289 (i5 + 1) c290 97 3 ((ps ++ [(⟨false, v18⟩ : Prm)]).flatMap Prm.cells), bx g101 #[.int .i64 v7, .string v8, .int .i64 v9.mod, .int .i64 v9.idx, .int .u32 v12, .slice a289 (i5 + 1) c290] 42, rw' oa i3 oc 42 6 (os.flatMap foD.cells), rw' ta ts.length tc 34 6 (ts.flatMap ftD.cells), rw' ia is.length ic 86 2 (is.flatMap impD.cells), bx g17 #[.string v2, .slice ia is.length ic, .slice ta ts.length tc, .slice oa i3 oc] 26, rrR ⟨a, c, l⟩ g5 s18] ++ (ts.map typR ++ os.map objR)) rfl
                exact ag179 ⟨i5 + 1, a289, c290, ps ++ [(⟨false, v18⟩ : Prm)], s18⟩ (by kernel_rfl) ⟨M299, by rw [List.length_append, hlenp]; rfl, by omega, by exact hlpp.next rPrm_reads.bad es⟩ (by omega)
             ·skip
              refine SL.run (d := 211) (v := .bool false) (by kernel_rfl) (SL.pick (d := 212) (v := .bool false) (by kernel_rfl) (SL.nil ?_))
              have hxi5 : i5 = v13 ∨ si5 = none := .inr (by rw [rhsz185]; rfl)
              have M300 := Mem.rrClose (D := ⟨a, c, l⟩) M184 6 rfl rhiz185 rhsz185
              refine SC.next (SC.no (by kernel_rfl) (SC.exit (i := 8) (by kernel_rfl) (SQ.seqExit (by nofun) (ex180 (by nofun) (SQ.blockHere (SC.next ?_))))))
              subst hlenp
              refine SC.region [0, 1, 2, 3, 4, 5, 6] (by kernel_rfl) (by kernel_rfl) (SL.run (d := 232) (v := .pointer (some ⟨g17, 3, none⟩)) (by kernel_rfl) (SL.load (d := 233) (t := 24) (a := .pointer (some ⟨g17, 3, none⟩)) (v := .slice oa i3 oc) (by kernel_rfl) (M300.ldCell 5 rfl (j := 3) (v := .slice oa i3 oc) rfl Try.underlying24 rfl) (SL.load (d := 234) (t := 42) (a := .pointer (some ⟨g101, 0, none⟩)) (v := .agg #[.int .i64 v7, .string v8, .int .i64 v9.mod, .int .i64 v9.idx, .int .u32 v12, .slice pa ps.length pc]) (by kernel_rfl) (M300.ldBox 1 rfl Try.underlying42 rfl (by kernel_rfl)) (SL.buildSliceM (d := 235) (t := 24) (e := 42) (len := 1) (size := 6) (z := .agg #[.int .i64 0, .string ⟨#[]⟩, .int .i64 0, .int .i64 0, .int .u32 0, .slice none 0 0]) (ps := [(0, .agg #[.int .i64 v7, .string v8, .int .i64 v9.mod, .int .i64 v9.idx, .int .u32 v12, .slice pa ps.length pc])]) (cs := #[.int .i64 v7, .string v8, .int .i64 v9.mod, .int .i64 v9.idx, .int .u32 v12, .slice pa ps.length pc]) M300 (by kernel_rfl) Try.underlying24 (by kernel_rfl) rfl rfl (by kernel_rfl) ?_))))
              intro g301 w302 hb303 ⟨bg301, lg301⟩ M304
              refine SL.appendM (d := 236) (ts := [24, 24]) (ty := 24) (vs := [.slice oa i3 oc, .slice (some ⟨g301, 0, none⟩) 1 1]) (k' := i3 + 1) (by kernel_rfl) (Mem.append (m := 1) (news := [.int .i64 v7, .string v8, .int .i64 v9.mod, .int .i64 v9.idx, .int .u32 v12, .slice pa ps.length pc]) M304 3 rfl (ET.of Try.underlying24 (by kernel_rfl) (by decide) (by decide) : ET Try.prog 24 42 (.agg #[.int .i64 0, .string ⟨#[]⟩, .int .i64 0, .int .i64 0, .int .u32 0, .slice none 0 0]) 6 72) (rd_box M304 0 rfl (by kernel_rfl) rfl) rfl (by intro u hu; simp only [List.mem_cons, List.not_mem_nil, or_false] at hu; rcases hu with rfl | rfl | rfl | rfl | rfl | rfl <;> rfl) (by omega) (by omega) (by omega)) ?_
              intro a305 c306 w307 M308 hk309
              refine SL.run (d := 237) (v := .pointer (some ⟨g17, 3, none⟩)) (by kernel_rfl) (SL.storeM (t := 24) (a := .pointer (some ⟨g17, 3, none⟩)) (v := .slice a305 (i3 + 1) c306) (by kernel_rfl) (M308.st1 6 rfl 3 rfl 24 rfl (by kernel_rfl) rfl) ?_)
              intro w310 M311 hk312 shk312
              refine SL.nil (SQ.blockNormal (SC.next ?_))
              have eh : rHead8 si3 = ((((v7 : Int), v8, v9) : Int × ByteArray × Rf), s9) := by unfold rHead8; rw [hv7]; dsimp only; rw [hv8]; dsimp only; rw [hv9]
              refine SC.region [0, 1, 2] (by kernel_rfl) (by kernel_rfl) (SL.run (d := 171) (v := .int .i64 i3) (by kernel_rfl) (SL.int (d := 172) (q := .i64) (x := IntKind.wrap .i64 (((i3 : Nat) : Int) + (1 : Int))) (y := ((i3 + 1 : Nat) : Int)) (wr64 (by omega) (by omega) (by omega)) (by kernel_rfl) (SL.run (d := 17) (v := .int .i64 ((i3 + 1 : Nat) : Int)) (by kernel_rfl) (SL.nil ?_))))
              have es : StepI rObj8 si3 ((⟨((v7 : Nat) : Int), v8, ⟨v9.mod, v9.idx⟩, ((v12 : Nat) : Int), ⟨pa, pc, ps⟩⟩ : FO) : FO).d si5 := proc_step hv7 hv8 hv9 hv12 hv13 (hlpp.exit rPrm_reads.bad hlep hxi5) ph166
              have ex : (os.flatMap foD.cells) ++ [.int .i64 v7, .string v8, .int .i64 v9.mod, .int .i64 v9.idx, .int .u32 v12, .slice pa ps.length pc] = (os ++ [(⟨((v7 : Nat) : Int), v8, ⟨v9.mod, v9.idx⟩, ((v12 : Nat) : Int), ⟨pa, pc, ps⟩⟩ : FO)]).flatMap foD.cells := by rw [List.flatMap_append]; rfl
              rw [ex] at M311
              have M313 : Mem ⟨w6, (· = g5)⟩ w310 (objR ((⟨((v7 : Nat) : Int), v8, ⟨v9.mod, v9.idx⟩, ((v12 : Nat) : Int), ⟨pa, pc, ps⟩⟩ : FO) : FO) :: ([bx g301 #[.int .i64 v7, .string v8, .int .i64 v9.mod, .int .i64 v9.idx, .int .u32 v12, .slice pa ps.length pc] 42, bx g101 #[.int .i64 v7, .string v8, .int .i64 v9.mod, .int .i64 v9.idx, .int .u32 v12, .slice pa ps.length pc] 42, rw' a305 (i3 + 1) c306 42 6 ((os ++ [(⟨((v7 : Nat) : Int), v8, ⟨v9.mod, v9.idx⟩, ((v12 : Nat) : Int), ⟨pa, pc, ps⟩⟩ : FO)]).flatMap foD.cells), rw' ta ts.length tc 34 6 (ts.flatMap ftD.cells), rw' ia is.length ic 86 2 (is.flatMap impD.cells), bx g17 #[.string v2, .slice ia is.length ic, .slice ta ts.length tc, .slice a305 (i3 + 1) c306] 26, rrR ⟨a, c, l⟩ g5 si5] ++ (ts.map typR ++ os.map objR))) := Mem.front M311 1 rfl
              have M314 := Mem.toEnd M313 (L' := ([bx g301 #[.int .i64 v7, .string v8, .int .i64 v9.mod, .int .i64 v9.idx, .int .u32 v12, .slice pa ps.length pc] 42, bx g101 #[.int .i64 v7, .string v8, .int .i64 v9.mod, .int .i64 v9.idx, .int .u32 v12, .slice pa ps.length pc] 42, rw' a305 (i3 + 1) c306 42 6 ((os ++ [(⟨((v7 : Nat) : Int), v8, ⟨v9.mod, v9.idx⟩, ((v12 : Nat) : Int), ⟨pa, pc, ps⟩⟩ : FO)]).flatMap foD.cells), rw' ta ts.length tc 34 6 (ts.flatMap ftD.cells), rw' ia is.length ic 86 2 (is.flatMap impD.cells), bx g17 #[.string v2, .slice ia is.length ic, .slice ta ts.length tc, .slice a305 (i3 + 1) c306] 26, rrR ⟨a, c, l⟩ g5 si5]) ++ (ts.map typR ++ (os ++ [(⟨((v7 : Nat) : Int), v8, ⟨v9.mod, v9.idx⟩, ((v12 : Nat) : Int), ⟨pa, pc, ps⟩⟩ : FO)]).map objR)) tail_obj
              have M315 := Mem.dropN M314 2 (L' := [rw' a305 (i3 + 1) c306 42 6 ((os ++ [(⟨((v7 : Nat) : Int), v8, ⟨v9.mod, v9.idx⟩, ((v12 : Nat) : Int), ⟨pa, pc, ps⟩⟩ : FO)]).flatMap foD.cells), rw' ta ts.length tc 34 6 (ts.flatMap ftD.cells), rw' ia is.length ic 86 2 (is.flatMap impD.cells), bx g17 #[.string v2, .slice ia is.length ic, .slice ta ts.length tc, .slice a305 (i3 + 1) c306] 26, rrR ⟨a, c, l⟩ g5 si5] ++ (ts.map typR ++ (os ++ [(⟨((v7 : Nat) : Int), v8, ⟨v9.mod, v9.idx⟩, ((v12 : Nat) : Int), ⟨pa, pc, ps⟩⟩ : FO)]).map objR)) rfl
              exact ag89 ⟨i3 + 1, a305, c306, os ++ [(⟨((v7 : Nat) : Int), v8, ⟨v9.mod, v9.idx⟩, ((v12 : Nat) : Int), ⟨pa, pc, ps⟩⟩ : FO)], si5⟩ (by kernel_rfl) ⟨M315, by rw [List.length_append, hleno]; rfl, by omega, by rw [List.map_append]; exact hlpo.next rObj8_reads.bad es⟩ (by omega)
            ·skip
             have ph186 : ¬ (((i5 : Nat) : Int) < ((v13 : Nat) : Int)) := of_decide_eq_false h186
             refine SL.bool (d := 205) (x := (decide (((i5 : Nat) : Int) < ((v13 : Nat) : Int)))) (y := false) h186 (by kernel_rfl) (SL.run (d := 206) (v := .bool false) (by kernel_rfl) (SL.offs [4, 5, 6, 7, 8] (is := [9]) rfl (by kernel_rfl) (SL.pick (d := 212) (v := .bool false) (by kernel_rfl) (SL.nil ?_))))
             have hxi5 : i5 = v13 ∨ si5 = none := .inl (by omega)
             have M316 := Mem.rrClose (D := ⟨a, c, l⟩) M184 6 rfl rhiz185 rhsz185
             refine SC.next (SC.no (by kernel_rfl) (SC.exit (i := 8) (by kernel_rfl) (SQ.seqExit (by nofun) (ex180 (by nofun) (SQ.blockHere (SC.next ?_))))))
             subst hlenp
             refine SC.region [0, 1, 2, 3, 4, 5, 6] (by kernel_rfl) (by kernel_rfl) (SL.run (d := 232) (v := .pointer (some ⟨g17, 3, none⟩)) (by kernel_rfl) (SL.load (d := 233) (t := 24) (a := .pointer (some ⟨g17, 3, none⟩)) (v := .slice oa i3 oc) (by kernel_rfl) (M316.ldCell 5 rfl (j := 3) (v := .slice oa i3 oc) rfl Try.underlying24 rfl) (SL.load (d := 234) (t := 42) (a := .pointer (some ⟨g101, 0, none⟩)) (v := .agg #[.int .i64 v7, .string v8, .int .i64 v9.mod, .int .i64 v9.idx, .int .u32 v12, .slice pa ps.length pc]) (by kernel_rfl) (M316.ldBox 1 rfl Try.underlying42 rfl (by kernel_rfl)) (SL.buildSliceM (d := 235) (t := 24) (e := 42) (len := 1) (size := 6) (z := .agg #[.int .i64 0, .string ⟨#[]⟩, .int .i64 0, .int .i64 0, .int .u32 0, .slice none 0 0]) (ps := [(0, .agg #[.int .i64 v7, .string v8, .int .i64 v9.mod, .int .i64 v9.idx, .int .u32 v12, .slice pa ps.length pc])]) (cs := #[.int .i64 v7, .string v8, .int .i64 v9.mod, .int .i64 v9.idx, .int .u32 v12, .slice pa ps.length pc]) M316 (by kernel_rfl) Try.underlying24 (by kernel_rfl) rfl rfl (by kernel_rfl) ?_))))
             intro g317 w318 hb319 ⟨bg317, lg317⟩ M320
             refine SL.appendM (d := 236) (ts := [24, 24]) (ty := 24) (vs := [.slice oa i3 oc, .slice (some ⟨g317, 0, none⟩) 1 1]) (k' := i3 + 1) (by kernel_rfl) (Mem.append (m := 1) (news := [.int .i64 v7, .string v8, .int .i64 v9.mod, .int .i64 v9.idx, .int .u32 v12, .slice pa ps.length pc]) M320 3 rfl (ET.of Try.underlying24 (by kernel_rfl) (by decide) (by decide) : ET Try.prog 24 42 (.agg #[.int .i64 0, .string ⟨#[]⟩, .int .i64 0, .int .i64 0, .int .u32 0, .slice none 0 0]) 6 72) (rd_box M320 0 rfl (by kernel_rfl) rfl) rfl (by intro u hu; simp only [List.mem_cons, List.not_mem_nil, or_false] at hu; rcases hu with rfl | rfl | rfl | rfl | rfl | rfl <;> rfl) (by omega) (by omega) (by omega)) ?_
             intro a321 c322 w323 M324 hk325
             refine SL.run (d := 237) (v := .pointer (some ⟨g17, 3, none⟩)) (by kernel_rfl) (SL.storeM (t := 24) (a := .pointer (some ⟨g17, 3, none⟩)) (v := .slice a321 (i3 + 1) c322) (by kernel_rfl) (M324.st1 6 rfl 3 rfl 24 rfl (by kernel_rfl) rfl) ?_)
             intro w326 M327 hk328 shk328
             refine SL.nil (SQ.blockNormal (SC.next ?_))
             have eh : rHead8 si3 = ((((v7 : Int), v8, v9) : Int × ByteArray × Rf), s9) := by unfold rHead8; rw [hv7]; dsimp only; rw [hv8]; dsimp only; rw [hv9]
             refine SC.region [0, 1, 2] (by kernel_rfl) (by kernel_rfl) (SL.run (d := 171) (v := .int .i64 i3) (by kernel_rfl) (SL.int (d := 172) (q := .i64) (x := IntKind.wrap .i64 (((i3 : Nat) : Int) + (1 : Int))) (y := ((i3 + 1 : Nat) : Int)) (wr64 (by omega) (by omega) (by omega)) (by kernel_rfl) (SL.run (d := 17) (v := .int .i64 ((i3 + 1 : Nat) : Int)) (by kernel_rfl) (SL.nil ?_))))
             have es : StepI rObj8 si3 ((⟨((v7 : Nat) : Int), v8, ⟨v9.mod, v9.idx⟩, ((v12 : Nat) : Int), ⟨pa, pc, ps⟩⟩ : FO) : FO).d si5 := proc_step hv7 hv8 hv9 hv12 hv13 (hlpp.exit rPrm_reads.bad hlep hxi5) ph166
             have ex : (os.flatMap foD.cells) ++ [.int .i64 v7, .string v8, .int .i64 v9.mod, .int .i64 v9.idx, .int .u32 v12, .slice pa ps.length pc] = (os ++ [(⟨((v7 : Nat) : Int), v8, ⟨v9.mod, v9.idx⟩, ((v12 : Nat) : Int), ⟨pa, pc, ps⟩⟩ : FO)]).flatMap foD.cells := by rw [List.flatMap_append]; rfl
             rw [ex] at M327
             have M329 : Mem ⟨w6, (· = g5)⟩ w326 (objR ((⟨((v7 : Nat) : Int), v8, ⟨v9.mod, v9.idx⟩, ((v12 : Nat) : Int), ⟨pa, pc, ps⟩⟩ : FO) : FO) :: ([bx g317 #[.int .i64 v7, .string v8, .int .i64 v9.mod, .int .i64 v9.idx, .int .u32 v12, .slice pa ps.length pc] 42, bx g101 #[.int .i64 v7, .string v8, .int .i64 v9.mod, .int .i64 v9.idx, .int .u32 v12, .slice pa ps.length pc] 42, rw' a321 (i3 + 1) c322 42 6 ((os ++ [(⟨((v7 : Nat) : Int), v8, ⟨v9.mod, v9.idx⟩, ((v12 : Nat) : Int), ⟨pa, pc, ps⟩⟩ : FO)]).flatMap foD.cells), rw' ta ts.length tc 34 6 (ts.flatMap ftD.cells), rw' ia is.length ic 86 2 (is.flatMap impD.cells), bx g17 #[.string v2, .slice ia is.length ic, .slice ta ts.length tc, .slice a321 (i3 + 1) c322] 26, rrR ⟨a, c, l⟩ g5 si5] ++ (ts.map typR ++ os.map objR))) := Mem.front M327 1 rfl
             have M330 := Mem.toEnd M329 (L' := ([bx g317 #[.int .i64 v7, .string v8, .int .i64 v9.mod, .int .i64 v9.idx, .int .u32 v12, .slice pa ps.length pc] 42, bx g101 #[.int .i64 v7, .string v8, .int .i64 v9.mod, .int .i64 v9.idx, .int .u32 v12, .slice pa ps.length pc] 42, rw' a321 (i3 + 1) c322 42 6 ((os ++ [(⟨((v7 : Nat) : Int), v8, ⟨v9.mod, v9.idx⟩, ((v12 : Nat) : Int), ⟨pa, pc, ps⟩⟩ : FO)]).flatMap foD.cells), rw' ta ts.length tc 34 6 (ts.flatMap ftD.cells), rw' ia is.length ic 86 2 (is.flatMap impD.cells), bx g17 #[.string v2, .slice ia is.length ic, .slice ta ts.length tc, .slice a321 (i3 + 1) c322] 26, rrR ⟨a, c, l⟩ g5 si5]) ++ (ts.map typR ++ (os ++ [(⟨((v7 : Nat) : Int), v8, ⟨v9.mod, v9.idx⟩, ((v12 : Nat) : Int), ⟨pa, pc, ps⟩⟩ : FO)]).map objR)) tail_obj
             have M331 := Mem.dropN M330 2 (L' := [rw' a321 (i3 + 1) c322 42 6 ((os ++ [(⟨((v7 : Nat) : Int), v8, ⟨v9.mod, v9.idx⟩, ((v12 : Nat) : Int), ⟨pa, pc, ps⟩⟩ : FO)]).flatMap foD.cells), rw' ta ts.length tc 34 6 (ts.flatMap ftD.cells), rw' ia is.length ic 86 2 (is.flatMap impD.cells), bx g17 #[.string v2, .slice ia is.length ic, .slice ta ts.length tc, .slice a321 (i3 + 1) c322] 26, rrR ⟨a, c, l⟩ g5 si5] ++ (ts.map typR ++ (os ++ [(⟨((v7 : Nat) : Int), v8, ⟨v9.mod, v9.idx⟩, ((v12 : Nat) : Int), ⟨pa, pc, ps⟩⟩ : FO)]).map objR)) rfl
             exact ag89 ⟨i3 + 1, a321, c322, os ++ [(⟨((v7 : Nat) : Int), v8, ⟨v9.mod, v9.idx⟩, ((v12 : Nat) : Int), ⟨pa, pc, ps⟩⟩ : FO)], si5⟩ (by kernel_rfl) ⟨M331, by rw [List.length_append, hleno]; rfl, by omega, by rw [List.map_append]; exact hlpo.next rObj8_reads.bad es⟩ (by omega)
           ·skip
            have ph166 : ¬ (((v7 : Nat) : Int) = (4 : Int)) := of_decide_eq_false h166
            refine SL.bool (d := 196) (x := (((v7 : Nat) : Int) == (4 : Int))) (y := false) ((int_beq _ _).trans h166) (by kernel_rfl) (SL.nil (SC.next (SC.no (by kernel_rfl) (SC.skip (by kernel_rfl) (SC.next (SC.region [0, 1, 2, 3, 4, 5, 6] (by kernel_rfl) (by kernel_rfl) ?_))))))
            refine SL.run (d := 232) (v := .pointer (some ⟨g17, 3, none⟩)) (by kernel_rfl) (SL.load (d := 233) (t := 24) (a := .pointer (some ⟨g17, 3, none⟩)) (v := .slice oa i3 oc) (by kernel_rfl) (M118.ldCell 4 rfl (j := 3) (v := .slice oa i3 oc) rfl Try.underlying24 rfl) (SL.load (d := 234) (t := 42) (a := .pointer (some ⟨g101, 0, none⟩)) (v := .agg #[.int .i64 v7, .string v8, .int .i64 v9.mod, .int .i64 v9.idx, .int .u32 0, .slice none 0 0]) (by kernel_rfl) (M118.ldBox 0 rfl Try.underlying42 rfl (by kernel_rfl)) (SL.buildSliceM (d := 235) (t := 24) (e := 42) (len := 1) (size := 6) (z := .agg #[.int .i64 0, .string ⟨#[]⟩, .int .i64 0, .int .i64 0, .int .u32 0, .slice none 0 0]) (ps := [(0, .agg #[.int .i64 v7, .string v8, .int .i64 v9.mod, .int .i64 v9.idx, .int .u32 0, .slice none 0 0])]) (cs := #[.int .i64 v7, .string v8, .int .i64 v9.mod, .int .i64 v9.idx, .int .u32 0, .slice none 0 0]) M118 (by kernel_rfl) Try.underlying24 (by kernel_rfl) rfl rfl (by kernel_rfl) ?_)))
            intro g332 w333 hb334 ⟨bg332, lg332⟩ M335
            refine SL.appendM (d := 236) (ts := [24, 24]) (ty := 24) (vs := [.slice oa i3 oc, .slice (some ⟨g332, 0, none⟩) 1 1]) (k' := i3 + 1) (by kernel_rfl) (Mem.append (m := 1) (news := [.int .i64 v7, .string v8, .int .i64 v9.mod, .int .i64 v9.idx, .int .u32 0, .slice none 0 0]) M335 2 rfl (ET.of Try.underlying24 (by kernel_rfl) (by decide) (by decide) : ET Try.prog 24 42 (.agg #[.int .i64 0, .string ⟨#[]⟩, .int .i64 0, .int .i64 0, .int .u32 0, .slice none 0 0]) 6 72) (rd_box M335 0 rfl (by kernel_rfl) rfl) rfl (by intro u hu; simp only [List.mem_cons, List.not_mem_nil, or_false] at hu; rcases hu with rfl | rfl | rfl | rfl | rfl | rfl <;> rfl) (by omega) (by omega) (by omega)) ?_
            intro a336 c337 w338 M339 hk340
            refine SL.run (d := 237) (v := .pointer (some ⟨g17, 3, none⟩)) (by kernel_rfl) (SL.storeM (t := 24) (a := .pointer (some ⟨g17, 3, none⟩)) (v := .slice a336 (i3 + 1) c337) (by kernel_rfl) (M339.st1 5 rfl 3 rfl 24 rfl (by kernel_rfl) rfl) ?_)
            intro w341 M342 hk343 shk343
            refine SL.nil (SQ.blockNormal (SC.next ?_))
            have eh : rHead8 si3 = ((((v7 : Int), v8, v9) : Int × ByteArray × Rf), s9) := by unfold rHead8; rw [hv7]; dsimp only; rw [hv8]; dsimp only; rw [hv9]
            refine SC.region [0, 1, 2] (by kernel_rfl) (by kernel_rfl) (SL.run (d := 171) (v := .int .i64 i3) (by kernel_rfl) (SL.int (d := 172) (q := .i64) (x := IntKind.wrap .i64 (((i3 : Nat) : Int) + (1 : Int))) (y := ((i3 + 1 : Nat) : Int)) (wr64 (by omega) (by omega) (by omega)) (by kernel_rfl) (SL.run (d := 17) (v := .int .i64 ((i3 + 1 : Nat) : Int)) (by kernel_rfl) (SL.nil ?_))))
            have es : StepI rObj8 si3 ((⟨((v7 : Nat) : Int), v8, ⟨v9.mod, v9.idx⟩, 0, ⟨none, 0, []⟩⟩ : FO) : FO).d s9 := StepI.of (by unfold rObj8; rw [eh]; dsimp only; rw [show rTail8 (v7 : Int) s9 = rNone8 s9 by unfold rTail8; rw [if_neg (by omega), if_neg ph166]]; rfl)
            have ex : (os.flatMap foD.cells) ++ [.int .i64 v7, .string v8, .int .i64 v9.mod, .int .i64 v9.idx, .int .u32 0, .slice none 0 0] = (os ++ [(⟨((v7 : Nat) : Int), v8, ⟨v9.mod, v9.idx⟩, 0, ⟨none, 0, []⟩⟩ : FO)]).flatMap foD.cells := by rw [List.flatMap_append]; rfl
            rw [ex] at M342
            have M344 : Mem ⟨w6, (· = g5)⟩ w341 (objR ((⟨((v7 : Nat) : Int), v8, ⟨v9.mod, v9.idx⟩, 0, ⟨none, 0, []⟩⟩ : FO) : FO) :: ([bx g332 #[.int .i64 v7, .string v8, .int .i64 v9.mod, .int .i64 v9.idx, .int .u32 0, .slice none 0 0] 42, bx g101 #[.int .i64 v7, .string v8, .int .i64 v9.mod, .int .i64 v9.idx, .int .u32 0, .slice none 0 0] 42, rw' a336 (i3 + 1) c337 42 6 ((os ++ [(⟨((v7 : Nat) : Int), v8, ⟨v9.mod, v9.idx⟩, 0, ⟨none, 0, []⟩⟩ : FO)]).flatMap foD.cells), rw' ta ts.length tc 34 6 (ts.flatMap ftD.cells), rw' ia is.length ic 86 2 (is.flatMap impD.cells), bx g17 #[.string v2, .slice ia is.length ic, .slice ta ts.length tc, .slice a336 (i3 + 1) c337] 26, rrR ⟨a, c, l⟩ g5 s9] ++ (ts.map typR ++ os.map objR))) := Mem.addNil M342
            have M345 := Mem.toEnd M344 (L' := ([bx g332 #[.int .i64 v7, .string v8, .int .i64 v9.mod, .int .i64 v9.idx, .int .u32 0, .slice none 0 0] 42, bx g101 #[.int .i64 v7, .string v8, .int .i64 v9.mod, .int .i64 v9.idx, .int .u32 0, .slice none 0 0] 42, rw' a336 (i3 + 1) c337 42 6 ((os ++ [(⟨((v7 : Nat) : Int), v8, ⟨v9.mod, v9.idx⟩, 0, ⟨none, 0, []⟩⟩ : FO)]).flatMap foD.cells), rw' ta ts.length tc 34 6 (ts.flatMap ftD.cells), rw' ia is.length ic 86 2 (is.flatMap impD.cells), bx g17 #[.string v2, .slice ia is.length ic, .slice ta ts.length tc, .slice a336 (i3 + 1) c337] 26, rrR ⟨a, c, l⟩ g5 s9]) ++ (ts.map typR ++ (os ++ [(⟨((v7 : Nat) : Int), v8, ⟨v9.mod, v9.idx⟩, 0, ⟨none, 0, []⟩⟩ : FO)]).map objR)) tail_obj
            have M346 := Mem.dropN M345 2 (L' := [rw' a336 (i3 + 1) c337 42 6 ((os ++ [(⟨((v7 : Nat) : Int), v8, ⟨v9.mod, v9.idx⟩, 0, ⟨none, 0, []⟩⟩ : FO)]).flatMap foD.cells), rw' ta ts.length tc 34 6 (ts.flatMap ftD.cells), rw' ia is.length ic 86 2 (is.flatMap impD.cells), bx g17 #[.string v2, .slice ia is.length ic, .slice ta ts.length tc, .slice a336 (i3 + 1) c337] 26, rrR ⟨a, c, l⟩ g5 s9] ++ (ts.map typR ++ (os ++ [(⟨((v7 : Nat) : Int), v8, ⟨v9.mod, v9.idx⟩, 0, ⟨none, 0, []⟩⟩ : FO)]).map objR)) rfl
            exact ag89 ⟨i3 + 1, a336, c337, os ++ [(⟨((v7 : Nat) : Int), v8, ⟨v9.mod, v9.idx⟩, 0, ⟨none, 0, []⟩⟩ : FO)], s9⟩ (by kernel_rfl) ⟨M346, by rw [List.length_append, hleno]; rfl, by omega, by rw [List.map_append]; exact hlpo.next rObj8_reads.bad es⟩ (by omega)
        ·skip
         refine SL.run (d := 169) (v := .bool false) (by kernel_rfl) (SL.pick (d := 170) (v := .bool false) (by kernel_rfl) (SL.nil ?_))
         have hxi3 : i3 = v6 ∨ si3 = none := .inr (by rw [rhsz95]; rfl)
         have M347 := Mem.rrClose (D := ⟨a, c, l⟩) M94 4 rfl rhiz95 rhsz95
         refine SC.next (SC.no (by kernel_rfl) (SC.exit (i := 6) (by kernel_rfl) (SQ.seqExit (by nofun) (ex90 (by nofun) (SQ.blockHere ?_)))))
         have hle2 := hlpo.exit (n := v6) rObj8_reads.bad hleo hxi3
         subst hleno
         exact ag82 ⟨oa, oc, os, si3⟩ (by kernel_rfl) ⟨M347, hle2⟩
       ·skip
        have ph96 : ¬ (((i3 : Nat) : Int) < ((v6 : Nat) : Int)) := of_decide_eq_false h96
        refine SL.bool (d := 163) (x := (decide (((i3 : Nat) : Int) < ((v6 : Nat) : Int)))) (y := false) h96 (by kernel_rfl) (SL.run (d := 164) (v := .bool false) (by kernel_rfl) (SL.offs [4, 5, 6, 7, 8] (is := [9]) rfl (by kernel_rfl) (SL.pick (d := 170) (v := .bool false) (by kernel_rfl) (SL.nil ?_))))
        have hxi3 : i3 = v6 ∨ si3 = none := .inl (by omega)
        have M348 := Mem.rrClose (D := ⟨a, c, l⟩) M94 4 rfl rhiz95 rhsz95
        refine SC.next (SC.no (by kernel_rfl) (SC.exit (i := 6) (by kernel_rfl) (SQ.seqExit (by nofun) (ex90 (by nofun) (SQ.blockHere ?_)))))
        have hle2 := hlpo.exit (n := v6) rObj8_reads.bad hleo hxi3
        subst hleno
        exact ag82 ⟨oa, oc, os, si3⟩ (by kernel_rfl) ⟨M348, hle2⟩
     ·skip
      intro Q349 ag350 ex351 pn352
      refine SC.seq (by kernel_rfl) (SC.region [0] (by kernel_rfl) (by kernel_rfl) (SL.run (d := 12) (v := .int .i64 0) (by kernel_rfl) (SL.nil (SC.next (SC.block (i := 2) (by kernel_rfl) ?_)))))
      have M353 : Mem ⟨w6, (· = g5)⟩ w40 ([rw' none 0 0 34 6 [], rw' ia is.length ic 86 2 (is.flatMap impD.cells), bx g17 #[.string v2, .slice ia is.length ic, .slice none 0 0, .slice none 0 0] 26, rrR ⟨a, c, l⟩ g5 s5]) := Mem.addNil M42
      have M354 : Mem ⟨w6, (· = g5)⟩ w40 ([rw' none 0 0 34 6 [], rw' ia is.length ic 86 2 (is.flatMap impD.cells), bx g17 #[.string v2, .slice ia is.length ic, .slice none 0 0, .slice none 0 0] 26, rrR ⟨a, c, l⟩ g5 s5] ++ ([].map typR)) := by have := M353; simpa using this
      refine SC.loopA (X := Nat × Option Addr × Nat × List FT × St) (fun x => [(0, .slice a l.length c), (2, .pointer (some ⟨g1, 0, none⟩)), (3, .int .u32 0), (4, .bool false), (5, .pointer (some ⟨g5, 0, none⟩)), (6, .int .u32 4294967295), (7, .pointer (some ⟨g17, 0, none⟩)), (8, .int .u32 v3), (9, .int .i64 v5), (12, .int .i64 ((x.1 : Nat) : Int))]) (fun x wr => Mem ⟨w6, (· = g5)⟩ wr ([rw' x.2.1 x.1 x.2.2.1 34 6 (x.2.2.2.1.flatMap ftD.cells), rw' ia is.length ic 86 2 (is.flatMap impD.cells), bx g17 #[.string v2, .slice ia is.length ic, .slice x.2.1 x.1 x.2.2.1, .slice none 0 0] 26, rrR ⟨a, c, l⟩ g5 x.2.2.2.2] ++ (x.2.2.2.1.map typR)) ∧ (x.2.2.2.1.length = x.1 ∧ x.1 ≤ v5 ∧ LoopI rTyp x.1 s5 (x.2.2.2.1.map FT.d) x.2.2.2.2)) (fun x => v5 + 1 - x.1) (PanOk.block pn352) (by kernel_rfl) ⟨0, none, 0, [], s5⟩ (by kernel_rfl) ⟨M354, rfl, Nat.zero_le _, LoopI.zero _ _⟩ ?_
      rintro ⟨i2, ta, tc, ts, si2⟩ w360 ⟨M361, hI355⟩ Q356 ag357 ex358 pn359
      replace M361 : Mem ⟨w6, (· = g5)⟩ w360 ([rw' ta i2 tc 34 6 (ts.flatMap ftD.cells), rw' ia is.length ic 86 2 (is.flatMap impD.cells), bx g17 #[.string v2, .slice ia is.length ic, .slice ta i2 tc, .slice none 0 0] 26, rrR ⟨a, c, l⟩ g5 si2] ++ (ts.map typR)) := M361
      replace hI355 : ts.length = i2 ∧ i2 ≤ v5 ∧ LoopI rTyp i2 s5 (ts.map FT.d) si2 := hI355
      show SC _ _ _ _ _ [(0, .slice a l.length c), (2, .pointer (some ⟨g1, 0, none⟩)), (3, .int .u32 0), (4, .bool false), (5, .pointer (some ⟨g5, 0, none⟩)), (6, .int .u32 4294967295), (7, .pointer (some ⟨g17, 0, none⟩)), (8, .int .u32 v3), (9, .int .i64 v5), (12, .int .i64 i2)] _
      obtain ⟨hlent, hlet, hlpt⟩ := hI355
      refine SC.seq (by kernel_rfl) (SC.seq (by kernel_rfl) ?_)
      obtain ⟨riz363, rbz363, M362, rhiz363, rhsz363⟩ := M361.rrOpen 3 rfl
      dsimp only at rhiz363 rhsz363
      replace rhsz363 : si2 = stOf rbz363 (l.drop riz363) := rhsz363
      refine SC.region [0, 1, 2, 3, 4, 5, 6, 7, 8, 9] (by kernel_rfl) (by kernel_rfl) (SL.run (d := 80) (v := .int .i64 i2) (by kernel_rfl) (SL.run (d := 81) (v := .int .i64 v5) (by kernel_rfl) ?_))
      rcases Bool.eq_false_or_eq_true (decide (((i2 : Nat) : Int) < ((v5 : Nat) : Int))) with h364 | h364
      ·skip
       have ph364 : ((i2 : Nat) : Int) < ((v5 : Nat) : Int) := of_decide_eq_true h364
       refine SL.bool (d := 82) (x := (decide (((i2 : Nat) : Int) < ((v5 : Nat) : Int)))) (y := true) h364 (by kernel_rfl) (SL.run (d := 83) (v := .bool true) (by kernel_rfl) (SL.run (d := 84) (v := .pointer (some ⟨g5, 0, none⟩)) (by kernel_rfl) (SL.run (d := 85) (v := .pointer (some ⟨g5, 0, none⟩)) (by kernel_rfl) (SL.run (d := 86) (v := .pointer (some ⟨g5, 2, none⟩)) (by kernel_rfl) (SL.load (d := 87) (t := 4) (a := .pointer (some ⟨g5, 2, none⟩)) (v := .bool rbz363) (by kernel_rfl) (M362.ldCell 3 rfl (j := 2) (v := .bool rbz363) rfl Try.underlying4 rfl) ?_)))))
       cases rbz363
       ·skip
        refine SL.run (d := 88) (v := .bool true) (by kernel_rfl) (SL.pick (d := 89) (v := .bool true) (by kernel_rfl) (SL.nil ?_))
        have M365 := Mem.rrClose (D := ⟨a, c, l⟩) M362 3 rfl rhiz363 rhsz363
        refine SC.next (SC.yes (by kernel_rfl) (SC.skip (by kernel_rfl) (SC.next (SC.seq (by kernel_rfl) (SC.block (i := 3) (by kernel_rfl) (SC.seq (by kernel_rfl) ?_))))))
        refine SC.region [0, 1, 2, 3, 4] (by kernel_rfl) (by kernel_rfl) (SL.run (d := 92) (v := .pointer (some ⟨g5, 0, none⟩)) (by kernel_rfl) ?_)
        obtain ⟨v19, s19, hv19, bv19⟩ := rbyte_nat (HR.now M365 3 rfl)
        refine SL.call (d := 93) (f := 43) (vs := [.pointer (some ⟨g5, 0, none⟩)]) (by kernel_rfl) (by kernel_rfl) (by have := refByte_walk (HR.now M365 3 rfl); rw [hv19] at this; exact this) ?_
        rintro e w366 ⟨rfl, hR, hk⟩
        refine ⟨_, rfl, ?_⟩
        have M368 := M365.rrr 3 rfl hR hk
        refine SL.build (d := 94) (t := 34) (ps := [(0, .int .i64 v19)]) (cs := #[.int .i64 v19, .int .i64 0, .int .i64 0, .int .i64 0, .int .i64 0, .slice none 0 0]) (by kernel_rfl) (by kernel_rfl) (SL.allocM (d := 13) (t := 34) (z := .agg #[.int .i64 0, .int .i64 0, .int .i64 0, .int .i64 0, .int .i64 0, .slice none 0 0]) (cs := #[.int .i64 0, .int .i64 0, .int .i64 0, .int .i64 0, .int .i64 0, .slice none 0 0]) M368 (by kernel_rfl) (by kernel_rfl) rfl ?_)
        intro g369 w370 hb371 ⟨bg369, lg369⟩ M372
        refine SL.storeM (t := 34) (a := .pointer (some ⟨g369, 0, none⟩)) (v := .agg #[.int .i64 v19, .int .i64 0, .int .i64 0, .int .i64 0, .int .i64 0, .slice none 0 0]) (by kernel_rfl) (M372.stBox 0 rfl rfl (by kernel_rfl) rfl) ?_
        intro w373 M374 hk375 shk375
        refine SL.nil (SC.next (SC.seq (by kernel_rfl) (SC.seq (by kernel_rfl) (SC.region [0, 1, 2] (by kernel_rfl) (by kernel_rfl) (SL.run (d := 95) (v := .pointer (some ⟨g369, 0, none⟩)) (by kernel_rfl) (SL.load (d := 96) (t := 31) (a := .pointer (some ⟨g369, 0, none⟩)) (v := .int .i64 v19) (by kernel_rfl) (M374.ldCell 0 rfl (j := 0) (v := .int .i64 v19) rfl Try.underlying31 rfl) ?_))))))
        rcases Bool.eq_false_or_eq_true (decide (((v19 : Nat) : Int) = (1 : Int))) with h376 | h376
        ·skip
         have ph376 : ((v19 : Nat) : Int) = (1 : Int) := of_decide_eq_true h376
         refine SL.bool (d := 97) (x := (((v19 : Nat) : Int) == (1 : Int))) (y := true) ((int_beq _ _).trans h376) (by kernel_rfl) (SL.nil (SC.next (SC.yes (by kernel_rfl) (SC.seq (by kernel_rfl) (SC.region [0, 1, 2, 3, 4] (by kernel_rfl) (by kernel_rfl) (SL.run (d := 98) (v := .pointer (some ⟨g5, 0, none⟩)) (by kernel_rfl) ?_))))))
         obtain ⟨v20, s20, hv20, bv20⟩ := rnum_nat (HR.now M374 4 rfl) 65535 (by decide)
         refine SL.call (d := 99) (f := 42) (vs := [.pointer (some ⟨g5, 0, none⟩), .int .u32 65535]) (by kernel_rfl) (by kernel_rfl) (by have := refWord8_walk (HR.now M374 4 rfl) 65535 (by decide) (by decide); rw [hv20] at this; exact this) ?_
         rintro e w377 ⟨rfl, hR, hk⟩
         refine ⟨_, rfl, ?_⟩
         have M379 := M374.rrr 4 rfl hR hk
         refine SL.int (d := 100) (q := .i64) (x := IntKind.wrap .i64 ((v20 : Nat) : Int)) (y := ((v20 : Nat) : Int)) (wr64 (by omega) (by omega) (by omega)) (by kernel_rfl) (SL.run (d := 101) (v := .pointer (some ⟨g369, 1, none⟩)) (by kernel_rfl) (SL.storeM (t := 3) (a := .pointer (some ⟨g369, 1, none⟩)) (v := .int .i64 v20) (by kernel_rfl) (M379.st1 0 rfl 1 rfl 3 rfl (by kernel_rfl) rfl) ?_))
         intro w380 M381 hk382 shk382
         refine SL.nil (SC.next (SC.region [0, 1, 2, 3, 4] (by kernel_rfl) (by kernel_rfl) (SL.run (d := 102) (v := .pointer (some ⟨g5, 0, none⟩)) (by kernel_rfl) ?_)))
         obtain ⟨v21, s21, hv21, bv21⟩ := rnum_nat (HR.now M381 4 rfl) 262144 (by decide)
         refine SL.call (d := 103) (f := 42) (vs := [.pointer (some ⟨g5, 0, none⟩), .int .u32 262144]) (by kernel_rfl) (by kernel_rfl) (by have := refWord8_walk (HR.now M381 4 rfl) 262144 (by decide) (by decide); rw [hv21] at this; exact this) ?_
         rintro e w383 ⟨rfl, hR, hk⟩
         refine ⟨_, rfl, ?_⟩
         have M385 := M381.rrr 4 rfl hR hk
         refine SL.int (d := 104) (q := .i64) (x := IntKind.wrap .i64 ((v21 : Nat) : Int)) (y := ((v21 : Nat) : Int)) (wr64 (by omega) (by omega) (by omega)) (by kernel_rfl) (SL.run (d := 105) (v := .pointer (some ⟨g369, 2, none⟩)) (by kernel_rfl) (SL.storeM (t := 3) (a := .pointer (some ⟨g369, 2, none⟩)) (v := .int .i64 v21) (by kernel_rfl) (M385.st1 0 rfl 2 rfl 3 rfl (by kernel_rfl) rfl) ?_))
         intro w386 M387 hk388 shk388
         refine SL.nil (SC.next (SC.seq (by kernel_rfl) (SC.seq (by kernel_rfl) (SC.region [0, 1, 2] (by kernel_rfl) (by kernel_rfl) (SL.run (d := 106) (v := .pointer (some ⟨g369, 0, none⟩)) (by kernel_rfl) (SL.load (d := 107) (t := 31) (a := .pointer (some ⟨g369, 0, none⟩)) (v := .int .i64 v19) (by kernel_rfl) (M387.ldCell 0 rfl (j := 0) (v := .int .i64 v19) rfl Try.underlying31 rfl) ?_))))))
         rcases Bool.eq_false_or_eq_true (decide (((v19 : Nat) : Int) = (2 : Int))) with h389 | h389
         ·skip
          have ph389 : ((v19 : Nat) : Int) = (2 : Int) := of_decide_eq_true h389
          omega
         ·skip
          have ph389 : ¬ (((v19 : Nat) : Int) = (2 : Int)) := of_decide_eq_false h389
          refine SL.bool (d := 108) (x := (((v19 : Nat) : Int) != (2 : Int))) (y := true) ((int_bne _ _).trans (by rw [h389]; rfl)) (by kernel_rfl) (SL.nil (SC.next (SC.yes (by kernel_rfl) (SC.seq (by kernel_rfl) (SC.region [0, 1, 2, 3] (by kernel_rfl) (by kernel_rfl) (SL.run (d := 109) (v := .pointer (some ⟨g5, 0, none⟩)) (by kernel_rfl) ?_))))))
          obtain ⟨v22, s22, hv22⟩ : ∃ x y, rRef s21 = (x, y) := ⟨_, _, rfl⟩
          refine SL.call (d := 110) (f := 44) (vs := [.pointer (some ⟨g5, 0, none⟩)]) (by kernel_rfl) (by kernel_rfl) (by have := refRf_walk (HR.now M387 4 rfl); rw [hv22] at this; exact this) ?_
          rintro e w390 ⟨rfl, hR, hk⟩
          refine ⟨_, rfl, ?_⟩
          have M392 := M387.rrr 4 rfl hR hk
          refine SL.run (d := 111) (v := .pointer (some ⟨g369, 3, none⟩)) (by kernel_rfl) (SL.storeM (t := 30) (a := .pointer (some ⟨g369, 3, none⟩)) (v := .agg #[.int .i64 v22.mod, .int .i64 v22.idx]) (by kernel_rfl) (M392.stPart 0 rfl 3 rfl (by kernel_rfl) rfl rfl) ?_)
          intro w393 M394 hk395 shk395
          refine SL.nil (SC.next (SC.seq (by kernel_rfl) (SC.region [0, 1, 2, 3, 4, 5, 6] (by kernel_rfl) (by kernel_rfl) (SL.run (d := 112) (v := .pointer (some ⟨g17, 2, none⟩)) (by kernel_rfl) (SL.load (d := 113) (t := 23) (a := .pointer (some ⟨g17, 2, none⟩)) (v := .slice ta i2 tc) (by kernel_rfl) (M394.ldCell 3 rfl (j := 2) (v := .slice ta i2 tc) rfl Try.underlying23 rfl) (SL.load (d := 114) (t := 34) (a := .pointer (some ⟨g369, 0, none⟩)) (v := .agg #[.int .i64 v19, .int .i64 v20, .int .i64 v21, .int .i64 v22.mod, .int .i64 v22.idx, .slice none 0 0]) (by kernel_rfl) (M394.ldBox 0 rfl Try.underlying34 rfl (by kernel_rfl)) ?_))))))
          refine SL.buildSliceM (d := 115) (t := 23) (e := 34) (len := 1) (size := 6) (z := .agg #[.int .i64 0, .int .i64 0, .int .i64 0, .int .i64 0, .int .i64 0, .slice none 0 0]) (ps := [(0, .agg #[.int .i64 v19, .int .i64 v20, .int .i64 v21, .int .i64 v22.mod, .int .i64 v22.idx, .slice none 0 0])]) (cs := #[.int .i64 v19, .int .i64 v20, .int .i64 v21, .int .i64 v22.mod, .int .i64 v22.idx, .slice none 0 0]) M394 (by kernel_rfl) Try.underlying23 (by kernel_rfl) rfl rfl (by kernel_rfl) ?_
          intro g396 w397 hb398 ⟨bg396, lg396⟩ M399
          refine SL.appendM (d := 116) (ts := [23, 23]) (ty := 23) (vs := [.slice ta i2 tc, .slice (some ⟨g396, 0, none⟩) 1 1]) (k' := i2 + 1) (by kernel_rfl) (Mem.append (m := 1) (news := [.int .i64 v19, .int .i64 v20, .int .i64 v21, .int .i64 v22.mod, .int .i64 v22.idx, .slice none 0 0]) M399 2 rfl (ET.of Try.underlying23 (by kernel_rfl) (by decide) (by decide) : ET Try.prog 23 34 (.agg #[.int .i64 0, .int .i64 0, .int .i64 0, .int .i64 0, .int .i64 0, .slice none 0 0]) 6 64) (rd_box M399 0 rfl (by kernel_rfl) rfl) rfl (by intro u hu; simp only [List.mem_cons, List.not_mem_nil, or_false] at hu; rcases hu with rfl | rfl | rfl | rfl | rfl | rfl <;> rfl) (by omega) (by omega) (by omega)) ?_
          intro a400 c401 w402 M403 hk404
          refine SL.run (d := 117) (v := .pointer (some ⟨g17, 2, none⟩)) (by kernel_rfl) (SL.storeM (t := 23) (a := .pointer (some ⟨g17, 2, none⟩)) (v := .slice a400 (i2 + 1) c401) (by kernel_rfl) (M403.st1 4 rfl 2 rfl 23 rfl (by kernel_rfl) rfl) ?_)
          intro w405 M406 hk407 shk407
          refine SL.nil (SC.next (SC.exit (i := 3) (by kernel_rfl) (SQ.seqExit (by nofun) (SQ.blockHere (SC.next (SC.region [0, 1, 2] (by kernel_rfl) (by kernel_rfl) ?_))))))
          refine SL.run (d := 90) (v := .int .i64 i2) (by kernel_rfl) (SL.int (d := 91) (q := .i64) (x := IntKind.wrap .i64 (((i2 : Nat) : Int) + (1 : Int))) (y := ((i2 + 1 : Nat) : Int)) (wr64 (by omega) (by omega) (by omega)) (by kernel_rfl) (SL.run (d := 12) (v := .int .i64 ((i2 + 1 : Nat) : Int)) (by kernel_rfl) (SL.nil ?_)))
          have es : StepI rTyp si2 ((⟨((v19 : Nat) : Int), ((v20 : Nat) : Int), ((v21 : Nat) : Int), ⟨v22.mod, v22.idx⟩, ⟨none, 0, []⟩⟩ : FT) : FT).d s22 := StepI.of (by unfold rTyp; rw [hv19]; dsimp only; rw [show rBody8 (v19 : Int) s19 = rArray s19 by unfold rBody8; rw [if_neg (by omega), if_pos ph376]]; unfold rArray; rw [hv20]; dsimp only; rw [hv21]; dsimp only; rw [hv22]; rfl)
          have ex : (ts.flatMap ftD.cells) ++ [.int .i64 v19, .int .i64 v20, .int .i64 v21, .int .i64 v22.mod, .int .i64 v22.idx, .slice none 0 0] = (ts ++ [(⟨((v19 : Nat) : Int), ((v20 : Nat) : Int), ((v21 : Nat) : Int), ⟨v22.mod, v22.idx⟩, ⟨none, 0, []⟩⟩ : FT)]).flatMap ftD.cells := by rw [List.flatMap_append]; rfl
          rw [ex] at M406
          have M408 : Mem ⟨w6, (· = g5)⟩ w405 (typR ((⟨((v19 : Nat) : Int), ((v20 : Nat) : Int), ((v21 : Nat) : Int), ⟨v22.mod, v22.idx⟩, ⟨none, 0, []⟩⟩ : FT) : FT) :: ([bx g396 #[.int .i64 v19, .int .i64 v20, .int .i64 v21, .int .i64 v22.mod, .int .i64 v22.idx, .slice none 0 0] 34, bx g369 #[.int .i64 v19, .int .i64 v20, .int .i64 v21, .int .i64 v22.mod, .int .i64 v22.idx, .slice none 0 0] 34, rw' a400 (i2 + 1) c401 34 6 ((ts ++ [(⟨((v19 : Nat) : Int), ((v20 : Nat) : Int), ((v21 : Nat) : Int), ⟨v22.mod, v22.idx⟩, ⟨none, 0, []⟩⟩ : FT)]).flatMap ftD.cells), rw' ia is.length ic 86 2 (is.flatMap impD.cells), bx g17 #[.string v2, .slice ia is.length ic, .slice a400 (i2 + 1) c401, .slice none 0 0] 26, rrR ⟨a, c, l⟩ g5 s22] ++ (ts.map typR))) := Mem.addNil M406
          have M409 := Mem.toEnd M408 (L' := ([bx g396 #[.int .i64 v19, .int .i64 v20, .int .i64 v21, .int .i64 v22.mod, .int .i64 v22.idx, .slice none 0 0] 34, bx g369 #[.int .i64 v19, .int .i64 v20, .int .i64 v21, .int .i64 v22.mod, .int .i64 v22.idx, .slice none 0 0] 34, rw' a400 (i2 + 1) c401 34 6 ((ts ++ [(⟨((v19 : Nat) : Int), ((v20 : Nat) : Int), ((v21 : Nat) : Int), ⟨v22.mod, v22.idx⟩, ⟨none, 0, []⟩⟩ : FT)]).flatMap ftD.cells), rw' ia is.length ic 86 2 (is.flatMap impD.cells), bx g17 #[.string v2, .slice ia is.length ic, .slice a400 (i2 + 1) c401, .slice none 0 0] 26, rrR ⟨a, c, l⟩ g5 s22]) ++ ((ts ++ [(⟨((v19 : Nat) : Int), ((v20 : Nat) : Int), ((v21 : Nat) : Int), ⟨v22.mod, v22.idx⟩, ⟨none, 0, []⟩⟩ : FT)]).map typR)) tail_typ
          have M410 := Mem.dropN M409 2 (L' := [rw' a400 (i2 + 1) c401 34 6 ((ts ++ [(⟨((v19 : Nat) : Int), ((v20 : Nat) : Int), ((v21 : Nat) : Int), ⟨v22.mod, v22.idx⟩, ⟨none, 0, []⟩⟩ : FT)]).flatMap ftD.cells), rw' ia is.length ic 86 2 (is.flatMap impD.cells), bx g17 #[.string v2, .slice ia is.length ic, .slice a400 (i2 + 1) c401, .slice none 0 0] 26, rrR ⟨a, c, l⟩ g5 s22] ++ ((ts ++ [(⟨((v19 : Nat) : Int), ((v20 : Nat) : Int), ((v21 : Nat) : Int), ⟨v22.mod, v22.idx⟩, ⟨none, 0, []⟩⟩ : FT)]).map typR)) rfl
          exact ag357 ⟨i2 + 1, a400, c401, ts ++ [(⟨((v19 : Nat) : Int), ((v20 : Nat) : Int), ((v21 : Nat) : Int), ⟨v22.mod, v22.idx⟩, ⟨none, 0, []⟩⟩ : FT)], s22⟩ (by kernel_rfl) ⟨M410, by rw [List.length_append, hlent]; rfl, by omega, by rw [List.map_append]; exact hlpt.next rTyp_reads.bad es⟩ (by omega)
        ·skip
         have ph376 : ¬ (((v19 : Nat) : Int) = (1 : Int)) := of_decide_eq_false h376
         refine SL.bool (d := 97) (x := (((v19 : Nat) : Int) == (1 : Int))) (y := false) ((int_beq _ _).trans h376) (by kernel_rfl) (SL.nil (SC.next (SC.no (by kernel_rfl) (SC.skip (by kernel_rfl) (SC.next (SC.seq (by kernel_rfl) ?_))))))
         refine SC.seq (by kernel_rfl) (SC.region [0, 1, 2] (by kernel_rfl) (by kernel_rfl) (SL.run (d := 106) (v := .pointer (some ⟨g369, 0, none⟩)) (by kernel_rfl) (SL.load (d := 107) (t := 31) (a := .pointer (some ⟨g369, 0, none⟩)) (v := .int .i64 v19) (by kernel_rfl) (M374.ldCell 0 rfl (j := 0) (v := .int .i64 v19) rfl Try.underlying31 rfl) ?_)))
         rcases Bool.eq_false_or_eq_true (decide (((v19 : Nat) : Int) = (2 : Int))) with h411 | h411
         ·skip
          have ph411 : ((v19 : Nat) : Int) = (2 : Int) := of_decide_eq_true h411
          refine SL.bool (d := 108) (x := (((v19 : Nat) : Int) != (2 : Int))) (y := false) ((int_bne _ _).trans (by rw [h411]; rfl)) (by kernel_rfl) (SL.nil (SC.next (SC.no (by kernel_rfl) (SC.skip (by kernel_rfl) (SC.next (SC.seq (by kernel_rfl) ?_))))))
          refine SC.region [0, 1, 2, 3, 4] (by kernel_rfl) (by kernel_rfl) (SL.run (d := 118) (v := .pointer (some ⟨g5, 0, none⟩)) (by kernel_rfl) ?_)
          obtain ⟨v23, s23, hv23, bv23⟩ := rnum_nat (HR.now M374 4 rfl) 262144 (by decide)
          refine SL.call (d := 119) (f := 42) (vs := [.pointer (some ⟨g5, 0, none⟩), .int .u32 262144]) (by kernel_rfl) (by kernel_rfl) (by have := refWord8_walk (HR.now M374 4 rfl) 262144 (by decide) (by decide); rw [hv23] at this; exact this) ?_
          rintro e w412 ⟨rfl, hR, hk⟩
          refine ⟨_, rfl, ?_⟩
          have M414 := M374.rrr 4 rfl hR hk
          refine SL.int (d := 120) (q := .i64) (x := IntKind.wrap .i64 ((v23 : Nat) : Int)) (y := ((v23 : Nat) : Int)) (wr64 (by omega) (by omega) (by omega)) (by kernel_rfl) (SL.run (d := 121) (v := .pointer (some ⟨g369, 2, none⟩)) (by kernel_rfl) (SL.storeM (t := 3) (a := .pointer (some ⟨g369, 2, none⟩)) (v := .int .i64 v23) (by kernel_rfl) (M414.st1 0 rfl 2 rfl 3 rfl (by kernel_rfl) rfl) ?_))
          intro w415 M416 hk417 shk417
          refine SL.nil (SC.next (SC.seq (by kernel_rfl) (SC.region [0, 1, 2] (by kernel_rfl) (by kernel_rfl) (SL.run (d := 122) (v := .pointer (some ⟨g5, 0, none⟩)) (by kernel_rfl) ?_))))
          obtain ⟨v24, s24, hv24, bv24⟩ := rbyte_nat (HR.now M416 4 rfl)
          refine SL.call (d := 123) (f := 43) (vs := [.pointer (some ⟨g5, 0, none⟩)]) (by kernel_rfl) (by kernel_rfl) (by have := refByte_walk (HR.now M416 4 rfl); rw [hv24] at this; exact this) ?_
          rintro e w418 ⟨rfl, hR, hk⟩
          refine ⟨_, rfl, ?_⟩
          have M420 := M416.rrr 4 rfl hR hk
          refine SL.run (d := 14) (v := .int .i64 v24) (by kernel_rfl) (SL.nil (SC.next (SC.seq (by kernel_rfl) (SC.seq (by kernel_rfl) (SC.region [0] (by kernel_rfl) (by kernel_rfl) (SL.run (d := 15) (v := .int .i64 0) (by kernel_rfl) ?_))))))
          refine SL.nil (SC.next (SC.block (i := 4) (by kernel_rfl) ?_))
          have M421 : Mem ⟨w6, (· = g5)⟩ w418 ([rw' none 0 0 37 4 [], bx g369 #[.int .i64 v19, .int .i64 0, .int .i64 v23, .int .i64 0, .int .i64 0, .slice none 0 0] 34, rw' ta i2 tc 34 6 (ts.flatMap ftD.cells), rw' ia is.length ic 86 2 (is.flatMap impD.cells), bx g17 #[.string v2, .slice ia is.length ic, .slice ta i2 tc, .slice none 0 0] 26, rrR ⟨a, c, l⟩ g5 s24] ++ (ts.map typR)) := Mem.addNil M420
          refine SC.loopA (X := Nat × Option Addr × Nat × List Fld × St) (fun x => [(0, .slice a l.length c), (2, .pointer (some ⟨g1, 0, none⟩)), (3, .int .u32 0), (4, .bool false), (5, .pointer (some ⟨g5, 0, none⟩)), (6, .int .u32 4294967295), (7, .pointer (some ⟨g17, 0, none⟩)), (8, .int .u32 v3), (9, .int .i64 v5), (12, .int .i64 i2), (13, .pointer (some ⟨g369, 0, none⟩)), (14, .int .i64 v24), (15, .int .i64 ((x.1 : Nat) : Int)), (80, .int .i64 i2), (81, .int .i64 v5), (82, .bool true), (83, .bool true), (84, .pointer (some ⟨g5, 0, none⟩)), (85, .pointer (some ⟨g5, 0, none⟩)), (86, .pointer (some ⟨g5, 2, none⟩)), (87, .bool false), (88, .bool true), (89, .bool true), (92, .pointer (some ⟨g5, 0, none⟩)), (93, .int .i64 v19), (94, .agg #[.int .i64 v19, .int .i64 0, .int .i64 0, .int .i64 0, .int .i64 0, .slice none 0 0]), (95, .pointer (some ⟨g369, 0, none⟩)), (96, .int .i64 v19), (97, .bool false), (106, .pointer (some ⟨g369, 0, none⟩)), (107, .int .i64 v19), (108, .bool false), (118, .pointer (some ⟨g5, 0, none⟩)), (119, .int .u32 v23), (120, .int .i64 v23), (121, .pointer (some ⟨g369, 2, none⟩)), (122, .pointer (some ⟨g5, 0, none⟩)), (123, .int .i64 v24)]) (fun x wr => Mem ⟨w6, (· = g5)⟩ wr ([rw' x.2.1 x.1 x.2.2.1 37 4 (x.2.2.2.1.flatMap Fld.cells), bx g369 #[.int .i64 v19, .int .i64 0, .int .i64 v23, .int .i64 0, .int .i64 0, .slice x.2.1 x.1 x.2.2.1] 34, rw' ta i2 tc 34 6 (ts.flatMap ftD.cells), rw' ia is.length ic 86 2 (is.flatMap impD.cells), bx g17 #[.string v2, .slice ia is.length ic, .slice ta i2 tc, .slice none 0 0] 26, rrR ⟨a, c, l⟩ g5 x.2.2.2.2] ++ (ts.map typR)) ∧ (x.2.2.2.1.length = x.1 ∧ x.1 ≤ v24 ∧ LoopI rFld x.1 s24 (x.2.2.2.1) x.2.2.2.2)) (fun x => v24 + 1 - x.1) (PanOk.block (PanOk.seq (PanOk.block (PanOk.seq pn359)))) (by kernel_rfl) ⟨0, none, 0, [], s24⟩ (by kernel_rfl) ⟨M421, rfl, Nat.zero_le _, LoopI.zero _ _⟩ ?_
          rintro ⟨i4, fa, fc, fs, si4⟩ w427 ⟨M428, hI422⟩ Q423 ag424 ex425 pn426
          replace M428 : Mem ⟨w6, (· = g5)⟩ w427 ([rw' fa i4 fc 37 4 (fs.flatMap Fld.cells), bx g369 #[.int .i64 v19, .int .i64 0, .int .i64 v23, .int .i64 0, .int .i64 0, .slice fa i4 fc] 34, rw' ta i2 tc 34 6 (ts.flatMap ftD.cells), rw' ia is.length ic 86 2 (is.flatMap impD.cells), bx g17 #[.string v2, .slice ia is.length ic, .slice ta i2 tc, .slice none 0 0] 26, rrR ⟨a, c, l⟩ g5 si4] ++ (ts.map typR)) := M428
          replace hI422 : fs.length = i4 ∧ i4 ≤ v24 ∧ LoopI rFld i4 s24 (fs) si4 := hI422
          show SC _ _ _ _ _ [(0, .slice a l.length c), (2, .pointer (some ⟨g1, 0, none⟩)), (3, .int .u32 0), (4, .bool false), (5, .pointer (some ⟨g5, 0, none⟩)), (6, .int .u32 4294967295), (7, .pointer (some ⟨g17, 0, none⟩)), (8, .int .u32 v3), (9, .int .i64 v5), (12, .int .i64 i2), (13, .pointer (some ⟨g369, 0, none⟩)), (14, .int .i64 v24), (15, .int .i64 i4), (80, .int .i64 i2), (81, .int .i64 v5), (82, .bool true), (83, .bool true), (84, .pointer (some ⟨g5, 0, none⟩)), (85, .pointer (some ⟨g5, 0, none⟩)), (86, .pointer (some ⟨g5, 2, none⟩)), (87, .bool false), (88, .bool true), (89, .bool true), (92, .pointer (some ⟨g5, 0, none⟩)), (93, .int .i64 v19), (94, .agg #[.int .i64 v19, .int .i64 0, .int .i64 0, .int .i64 0, .int .i64 0, .slice none 0 0]), (95, .pointer (some ⟨g369, 0, none⟩)), (96, .int .i64 v19), (97, .bool false), (106, .pointer (some ⟨g369, 0, none⟩)), (107, .int .i64 v19), (108, .bool false), (118, .pointer (some ⟨g5, 0, none⟩)), (119, .int .u32 v23), (120, .int .i64 v23), (121, .pointer (some ⟨g369, 2, none⟩)), (122, .pointer (some ⟨g5, 0, none⟩)), (123, .int .i64 v24)] _
          obtain ⟨hlenf, hlef, hlpf⟩ := hI422
          refine SC.seq (by kernel_rfl) (SC.seq (by kernel_rfl) ?_)
          obtain ⟨riz430, rbz430, M429, rhiz430, rhsz430⟩ := M428.rrOpen 5 rfl
          dsimp only at rhiz430 rhsz430
          replace rhsz430 : si4 = stOf rbz430 (l.drop riz430) := rhsz430
          refine SC.region [0, 1, 2, 3, 4, 5, 6, 7, 8, 9] (by kernel_rfl) (by kernel_rfl) (SL.run (d := 124) (v := .int .i64 i4) (by kernel_rfl) (SL.run (d := 125) (v := .int .i64 v24) (by kernel_rfl) ?_))
          rcases Bool.eq_false_or_eq_true (decide (((i4 : Nat) : Int) < ((v24 : Nat) : Int))) with h431 | h431
          ·skip
           have ph431 : ((i4 : Nat) : Int) < ((v24 : Nat) : Int) := of_decide_eq_true h431
           refine SL.bool (d := 126) (x := (decide (((i4 : Nat) : Int) < ((v24 : Nat) : Int)))) (y := true) h431 (by kernel_rfl) (SL.run (d := 127) (v := .bool true) (by kernel_rfl) (SL.run (d := 128) (v := .pointer (some ⟨g5, 0, none⟩)) (by kernel_rfl) (SL.run (d := 129) (v := .pointer (some ⟨g5, 0, none⟩)) (by kernel_rfl) (SL.run (d := 130) (v := .pointer (some ⟨g5, 2, none⟩)) (by kernel_rfl) (SL.load (d := 131) (t := 4) (a := .pointer (some ⟨g5, 2, none⟩)) (v := .bool rbz430) (by kernel_rfl) (M429.ldCell 5 rfl (j := 2) (v := .bool rbz430) rfl Try.underlying4 rfl) ?_)))))
           cases rbz430
           ·skip
            refine SL.run (d := 132) (v := .bool true) (by kernel_rfl) (SL.pick (d := 133) (v := .bool true) (by kernel_rfl) (SL.nil ?_))
            have M432 := Mem.rrClose (D := ⟨a, c, l⟩) M429 5 rfl rhiz430 rhsz430
            refine SC.next (SC.yes (by kernel_rfl) (SC.skip (by kernel_rfl) (SC.next (SC.seq (by kernel_rfl) (SC.block (i := 5) (by kernel_rfl) (SC.seq (by kernel_rfl) ?_))))))
            refine SC.region [0, 1, 2, 3, 4] (by kernel_rfl) (by kernel_rfl) (SL.run (d := 136) (v := .pointer (some ⟨g5, 0, none⟩)) (by kernel_rfl) ?_)
            obtain ⟨v25, s25, hv25⟩ : ∃ x y, rNm si4 = (x, y) := ⟨_, _, rfl⟩
            refine SL.call (d := 137) (f := 41) (vs := [.pointer (some ⟨g5, 0, none⟩)]) (by kernel_rfl) (by kernel_rfl) (by have := refNm_walk (HR.now M432 5 rfl) ha; rw [hv25] at this; exact this) ?_
            rintro e w433 ⟨rfl, hR, hk⟩
            refine ⟨_, rfl, ?_⟩
            have M435 := M432.rrr 5 rfl hR hk
            refine SL.build (d := 138) (t := 37) (ps := [(0, .string v25)]) (cs := #[.string v25, .int .i64 0, .int .i64 0, .int .i64 0]) (by kernel_rfl) (by kernel_rfl) (SL.allocM (d := 16) (t := 37) (z := .agg #[.string ⟨#[]⟩, .int .i64 0, .int .i64 0, .int .i64 0]) (cs := #[.string ⟨#[]⟩, .int .i64 0, .int .i64 0, .int .i64 0]) M435 (by kernel_rfl) (by kernel_rfl) rfl ?_)
            intro g436 w437 hb438 ⟨bg436, lg436⟩ M439
            refine SL.storeM (t := 37) (a := .pointer (some ⟨g436, 0, none⟩)) (v := .agg #[.string v25, .int .i64 0, .int .i64 0, .int .i64 0]) (by kernel_rfl) (M439.stBox 0 rfl rfl (by kernel_rfl) rfl) ?_
            intro w440 M441 hk442 shk442
            refine SL.nil (SC.next (SC.seq (by kernel_rfl) (SC.region [0, 1, 2, 3, 4] (by kernel_rfl) (by kernel_rfl) (SL.run (d := 139) (v := .pointer (some ⟨g5, 0, none⟩)) (by kernel_rfl) ?_))))
            obtain ⟨v26, s26, hv26, bv26⟩ := rnum_nat (HR.now M441 6 rfl) 262144 (by decide)
            refine SL.call (d := 140) (f := 42) (vs := [.pointer (some ⟨g5, 0, none⟩), .int .u32 262144]) (by kernel_rfl) (by kernel_rfl) (by have := refWord8_walk (HR.now M441 6 rfl) 262144 (by decide) (by decide); rw [hv26] at this; exact this) ?_
            rintro e w443 ⟨rfl, hR, hk⟩
            refine ⟨_, rfl, ?_⟩
            have M445 := M441.rrr 6 rfl hR hk
            refine SL.int (d := 141) (q := .i64) (x := IntKind.wrap .i64 ((v26 : Nat) : Int)) (y := ((v26 : Nat) : Int)) (wr64 (by omega) (by omega) (by omega)) (by kernel_rfl) (SL.run (d := 142) (v := .pointer (some ⟨g436, 1, none⟩)) (by kernel_rfl) (SL.storeM (t := 3) (a := .pointer (some ⟨g436, 1, none⟩)) (v := .int .i64 v26) (by kernel_rfl) (M445.st1 0 rfl 1 rfl 3 rfl (by kernel_rfl) rfl) ?_))
            intro w446 M447 hk448 shk448
            refine SL.nil (SC.next (SC.seq (by kernel_rfl) (SC.region [0, 1, 2, 3] (by kernel_rfl) (by kernel_rfl) (SL.run (d := 143) (v := .pointer (some ⟨g5, 0, none⟩)) (by kernel_rfl) ?_))))
            obtain ⟨v27, s27, hv27⟩ : ∃ x y, rRef s26 = (x, y) := ⟨_, _, rfl⟩
            refine SL.call (d := 144) (f := 44) (vs := [.pointer (some ⟨g5, 0, none⟩)]) (by kernel_rfl) (by kernel_rfl) (by have := refRf_walk (HR.now M447 6 rfl); rw [hv27] at this; exact this) ?_
            rintro e w449 ⟨rfl, hR, hk⟩
            refine ⟨_, rfl, ?_⟩
            have M451 := M447.rrr 6 rfl hR hk
            refine SL.run (d := 145) (v := .pointer (some ⟨g436, 2, none⟩)) (by kernel_rfl) (SL.storeM (t := 30) (a := .pointer (some ⟨g436, 2, none⟩)) (v := .agg #[.int .i64 v27.mod, .int .i64 v27.idx]) (by kernel_rfl) (M451.stPart 0 rfl 2 rfl (by kernel_rfl) rfl rfl) ?_)
            intro w452 M453 hk454 shk454
            refine SL.nil (SC.next (SC.region [0, 1, 2, 3, 4, 5, 6] (by kernel_rfl) (by kernel_rfl) (SL.run (d := 146) (v := .pointer (some ⟨g369, 5, none⟩)) (by kernel_rfl) (SL.load (d := 147) (t := 32) (a := .pointer (some ⟨g369, 5, none⟩)) (v := .slice fa i4 fc) (by kernel_rfl) (M453.ldCell 2 rfl (j := 5) (v := .slice fa i4 fc) rfl Try.underlying32 rfl) (SL.load (d := 148) (t := 37) (a := .pointer (some ⟨g436, 0, none⟩)) (v := .agg #[.string v25, .int .i64 v26, .int .i64 v27.mod, .int .i64 v27.idx]) (by kernel_rfl) (M453.ldBox 0 rfl Try.underlying37 rfl (by kernel_rfl)) (SL.buildSliceM (d := 149) (t := 32) (e := 37) (len := 1) (size := 4) (z := .agg #[.string ⟨#[]⟩, .int .i64 0, .int .i64 0, .int .i64 0]) (ps := [(0, .agg #[.string v25, .int .i64 v26, .int .i64 v27.mod, .int .i64 v27.idx])]) (cs := #[.string v25, .int .i64 v26, .int .i64 v27.mod, .int .i64 v27.idx]) M453 (by kernel_rfl) Try.underlying32 (by kernel_rfl) rfl rfl (by kernel_rfl) ?_))))))
            intro g455 w456 hb457 ⟨bg455, lg455⟩ M458
            refine SL.appendM (d := 150) (ts := [32, 32]) (ty := 32) (vs := [.slice fa i4 fc, .slice (some ⟨g455, 0, none⟩) 1 1]) (k' := i4 + 1) (by kernel_rfl) (Mem.append (m := 1) (news := [.string v25, .int .i64 v26, .int .i64 v27.mod, .int .i64 v27.idx]) M458 2 rfl (ET.of Try.underlying32 (by kernel_rfl) (by decide) (by decide) : ET Try.prog 32 37 (.agg #[.string ⟨#[]⟩, .int .i64 0, .int .i64 0, .int .i64 0]) 4 40) (rd_box M458 0 rfl (by kernel_rfl) rfl) rfl (by intro u hu; simp only [List.mem_cons, List.not_mem_nil, or_false] at hu; rcases hu with rfl | rfl | rfl | rfl <;> rfl) (by omega) (by omega) (by omega)) ?_
            intro a459 c460 w461 M462 hk463
            refine SL.run (d := 151) (v := .pointer (some ⟨g369, 5, none⟩)) (by kernel_rfl) (SL.storeM (t := 32) (a := .pointer (some ⟨g369, 5, none⟩)) (v := .slice a459 (i4 + 1) c460) (by kernel_rfl) (M462.st1 3 rfl 5 rfl 32 rfl (by kernel_rfl) rfl) ?_)
            intro w464 M465 hk466 shk466
            refine SL.nil (SQ.blockNormal (SC.next (SC.region [0, 1, 2] (by kernel_rfl) (by kernel_rfl) (SL.run (d := 134) (v := .int .i64 i4) (by kernel_rfl) (SL.int (d := 135) (q := .i64) (x := IntKind.wrap .i64 (((i4 : Nat) : Int) + (1 : Int))) (y := ((i4 + 1 : Nat) : Int)) (wr64 (by omega) (by omega) (by omega)) (by kernel_rfl) (SL.run (d := 15) (v := .int .i64 ((i4 + 1 : Nat) : Int)) (by kernel_rfl) ?_))))))
            refine SL.nil ?_
            have es : StepI rFld si4 ((⟨v25, (v26 : Int), v27⟩ : Fld)) s27 := StepI.of (by unfold rFld; rw [hv25]; dsimp only; rw [hv26]; dsimp only; rw [hv27])
            have ex : (fs.flatMap Fld.cells) ++ [.string v25, .int .i64 v26, .int .i64 v27.mod, .int .i64 v27.idx] = (fs ++ [(⟨v25, (v26 : Int), v27⟩ : Fld)]).flatMap Fld.cells := by rw [List.flatMap_append]; rfl
            rw [ex] at M465
            have M467 := Mem.dropN M465 2 (L' := [rw' a459 (i4 + 1) c460 37 4 ((fs ++ [(⟨v25, (v26 : Int), v27⟩ : Fld)]).flatMap Fld.cells), bx g369 #[.int .i64 v19, .int .i64 0, .int .i64 v23, .int .i64 0, .int .i64 0, .slice a459 (i4 + 1) c460] 34, rw' ta i2 tc 34 6 (ts.flatMap ftD.cells), rw' ia is.length ic 86 2 (is.flatMap impD.cells), bx g17 #[.string v2, .slice ia is.length ic, .slice ta i2 tc, .slice none 0 0] 26, rrR ⟨a, c, l⟩ g5 s27] ++ (ts.map typR)) rfl
            exact ag424 ⟨i4 + 1, a459, c460, fs ++ [(⟨v25, (v26 : Int), v27⟩ : Fld)], s27⟩ (by kernel_rfl) ⟨M467, by rw [List.length_append, hlenf]; rfl, by omega, by exact hlpf.next rFld_reads.bad es⟩ (by omega)
           ·skip
            refine SL.run (d := 132) (v := .bool false) (by kernel_rfl) (SL.pick (d := 133) (v := .bool false) (by kernel_rfl) (SL.nil ?_))
            have hxi4 : i4 = v24 ∨ si4 = none := .inr (by rw [rhsz430]; rfl)
            have M468 := Mem.rrClose (D := ⟨a, c, l⟩) M429 5 rfl rhiz430 rhsz430
            refine SC.next (SC.no (by kernel_rfl) (SC.exit (i := 4) (by kernel_rfl) (SQ.seqExit (by nofun) (ex425 (by nofun) (SQ.blockHere (SC.next ?_))))))
            subst hlenf
            refine SC.region [0, 1, 2, 3, 4, 5, 6] (by kernel_rfl) (by kernel_rfl) (SL.run (d := 152) (v := .pointer (some ⟨g17, 2, none⟩)) (by kernel_rfl) (SL.load (d := 153) (t := 23) (a := .pointer (some ⟨g17, 2, none⟩)) (v := .slice ta i2 tc) (by kernel_rfl) (M468.ldCell 4 rfl (j := 2) (v := .slice ta i2 tc) rfl Try.underlying23 rfl) (SL.load (d := 154) (t := 34) (a := .pointer (some ⟨g369, 0, none⟩)) (v := .agg #[.int .i64 v19, .int .i64 0, .int .i64 v23, .int .i64 0, .int .i64 0, .slice fa fs.length fc]) (by kernel_rfl) (M468.ldBox 1 rfl Try.underlying34 rfl (by kernel_rfl)) (SL.buildSliceM (d := 155) (t := 23) (e := 34) (len := 1) (size := 6) (z := .agg #[.int .i64 0, .int .i64 0, .int .i64 0, .int .i64 0, .int .i64 0, .slice none 0 0]) (ps := [(0, .agg #[.int .i64 v19, .int .i64 0, .int .i64 v23, .int .i64 0, .int .i64 0, .slice fa fs.length fc])]) (cs := #[.int .i64 v19, .int .i64 0, .int .i64 v23, .int .i64 0, .int .i64 0, .slice fa fs.length fc]) M468 (by kernel_rfl) Try.underlying23 (by kernel_rfl) rfl rfl (by kernel_rfl) ?_))))
            intro g469 w470 hb471 ⟨bg469, lg469⟩ M472
            refine SL.appendM (d := 156) (ts := [23, 23]) (ty := 23) (vs := [.slice ta i2 tc, .slice (some ⟨g469, 0, none⟩) 1 1]) (k' := i2 + 1) (by kernel_rfl) (Mem.append (m := 1) (news := [.int .i64 v19, .int .i64 0, .int .i64 v23, .int .i64 0, .int .i64 0, .slice fa fs.length fc]) M472 3 rfl (ET.of Try.underlying23 (by kernel_rfl) (by decide) (by decide) : ET Try.prog 23 34 (.agg #[.int .i64 0, .int .i64 0, .int .i64 0, .int .i64 0, .int .i64 0, .slice none 0 0]) 6 64) (rd_box M472 0 rfl (by kernel_rfl) rfl) rfl (by intro u hu; simp only [List.mem_cons, List.not_mem_nil, or_false] at hu; rcases hu with rfl | rfl | rfl | rfl | rfl | rfl <;> rfl) (by omega) (by omega) (by omega)) ?_
            intro a473 c474 w475 M476 hk477
            refine SL.run (d := 157) (v := .pointer (some ⟨g17, 2, none⟩)) (by kernel_rfl) (SL.storeM (t := 23) (a := .pointer (some ⟨g17, 2, none⟩)) (v := .slice a473 (i2 + 1) c474) (by kernel_rfl) (M476.st1 5 rfl 2 rfl 23 rfl (by kernel_rfl) rfl) ?_)
            intro w478 M479 hk480 shk480
            refine SL.nil (SQ.blockNormal (SC.next (SC.region [0, 1, 2] (by kernel_rfl) (by kernel_rfl) (SL.run (d := 90) (v := .int .i64 i2) (by kernel_rfl) (SL.int (d := 91) (q := .i64) (x := IntKind.wrap .i64 (((i2 : Nat) : Int) + (1 : Int))) (y := ((i2 + 1 : Nat) : Int)) (wr64 (by omega) (by omega) (by omega)) (by kernel_rfl) (SL.run (d := 12) (v := .int .i64 ((i2 + 1 : Nat) : Int)) (by kernel_rfl) ?_))))))
            refine SL.nil ?_
            have es : StepI rTyp si2 ((⟨((v19 : Nat) : Int), 0, ((v23 : Nat) : Int), ⟨0, 0⟩, ⟨fa, fc, fs⟩⟩ : FT) : FT).d si4 := many_step hv23 hv24 (hlpf.exit rFld_reads.bad hlef hxi4) _ hv19 ph411
            have ex : (ts.flatMap ftD.cells) ++ [.int .i64 v19, .int .i64 0, .int .i64 v23, .int .i64 0, .int .i64 0, .slice fa fs.length fc] = (ts ++ [(⟨((v19 : Nat) : Int), 0, ((v23 : Nat) : Int), ⟨0, 0⟩, ⟨fa, fc, fs⟩⟩ : FT)]).flatMap ftD.cells := by rw [List.flatMap_append]; rfl
            rw [ex] at M479
            have M481 : Mem ⟨w6, (· = g5)⟩ w478 (typR ((⟨((v19 : Nat) : Int), 0, ((v23 : Nat) : Int), ⟨0, 0⟩, ⟨fa, fc, fs⟩⟩ : FT) : FT) :: ([bx g469 #[.int .i64 v19, .int .i64 0, .int .i64 v23, .int .i64 0, .int .i64 0, .slice fa fs.length fc] 34, bx g369 #[.int .i64 v19, .int .i64 0, .int .i64 v23, .int .i64 0, .int .i64 0, .slice fa fs.length fc] 34, rw' a473 (i2 + 1) c474 34 6 ((ts ++ [(⟨((v19 : Nat) : Int), 0, ((v23 : Nat) : Int), ⟨0, 0⟩, ⟨fa, fc, fs⟩⟩ : FT)]).flatMap ftD.cells), rw' ia is.length ic 86 2 (is.flatMap impD.cells), bx g17 #[.string v2, .slice ia is.length ic, .slice a473 (i2 + 1) c474, .slice none 0 0] 26, rrR ⟨a, c, l⟩ g5 si4] ++ (ts.map typR))) := Mem.front M479 1 rfl
            have M482 := Mem.toEnd M481 (L' := ([bx g469 #[.int .i64 v19, .int .i64 0, .int .i64 v23, .int .i64 0, .int .i64 0, .slice fa fs.length fc] 34, bx g369 #[.int .i64 v19, .int .i64 0, .int .i64 v23, .int .i64 0, .int .i64 0, .slice fa fs.length fc] 34, rw' a473 (i2 + 1) c474 34 6 ((ts ++ [(⟨((v19 : Nat) : Int), 0, ((v23 : Nat) : Int), ⟨0, 0⟩, ⟨fa, fc, fs⟩⟩ : FT)]).flatMap ftD.cells), rw' ia is.length ic 86 2 (is.flatMap impD.cells), bx g17 #[.string v2, .slice ia is.length ic, .slice a473 (i2 + 1) c474, .slice none 0 0] 26, rrR ⟨a, c, l⟩ g5 si4]) ++ ((ts ++ [(⟨((v19 : Nat) : Int), 0, ((v23 : Nat) : Int), ⟨0, 0⟩, ⟨fa, fc, fs⟩⟩ : FT)]).map typR)) tail_typ
            have M483 := Mem.dropN M482 2 (L' := [rw' a473 (i2 + 1) c474 34 6 ((ts ++ [(⟨((v19 : Nat) : Int), 0, ((v23 : Nat) : Int), ⟨0, 0⟩, ⟨fa, fc, fs⟩⟩ : FT)]).flatMap ftD.cells), rw' ia is.length ic 86 2 (is.flatMap impD.cells), bx g17 #[.string v2, .slice ia is.length ic, .slice a473 (i2 + 1) c474, .slice none 0 0] 26, rrR ⟨a, c, l⟩ g5 si4] ++ ((ts ++ [(⟨((v19 : Nat) : Int), 0, ((v23 : Nat) : Int), ⟨0, 0⟩, ⟨fa, fc, fs⟩⟩ : FT)]).map typR)) rfl
            exact ag357 ⟨i2 + 1, a473, c474, ts ++ [(⟨((v19 : Nat) : Int), 0, ((v23 : Nat) : Int), ⟨0, 0⟩, ⟨fa, fc, fs⟩⟩ : FT)], si4⟩ (by kernel_rfl) ⟨M483, by rw [List.length_append, hlent]; rfl, by omega, by rw [List.map_append]; exact hlpt.next rTyp_reads.bad es⟩ (by omega)
          ·skip
           have ph431 : ¬ (((i4 : Nat) : Int) < ((v24 : Nat) : Int)) := of_decide_eq_false h431
           refine SL.bool (d := 126) (x := (decide (((i4 : Nat) : Int) < ((v24 : Nat) : Int)))) (y := false) h431 (by kernel_rfl) (SL.run (d := 127) (v := .bool false) (by kernel_rfl) (SL.offs [4, 5, 6, 7, 8] (is := [9]) rfl (by kernel_rfl) (SL.pick (d := 133) (v := .bool false) (by kernel_rfl) (SL.nil ?_))))
           have hxi4 : i4 = v24 ∨ si4 = none := .inl (by omega)
           have M484 := Mem.rrClose (D := ⟨a, c, l⟩) M429 5 rfl rhiz430 rhsz430
           refine SC.next (SC.no (by kernel_rfl) (SC.exit (i := 4) (by kernel_rfl) (SQ.seqExit (by nofun) (ex425 (by nofun) (SQ.blockHere (SC.next ?_))))))
           subst hlenf
           refine SC.region [0, 1, 2, 3, 4, 5, 6] (by kernel_rfl) (by kernel_rfl) (SL.run (d := 152) (v := .pointer (some ⟨g17, 2, none⟩)) (by kernel_rfl) (SL.load (d := 153) (t := 23) (a := .pointer (some ⟨g17, 2, none⟩)) (v := .slice ta i2 tc) (by kernel_rfl) (M484.ldCell 4 rfl (j := 2) (v := .slice ta i2 tc) rfl Try.underlying23 rfl) (SL.load (d := 154) (t := 34) (a := .pointer (some ⟨g369, 0, none⟩)) (v := .agg #[.int .i64 v19, .int .i64 0, .int .i64 v23, .int .i64 0, .int .i64 0, .slice fa fs.length fc]) (by kernel_rfl) (M484.ldBox 1 rfl Try.underlying34 rfl (by kernel_rfl)) (SL.buildSliceM (d := 155) (t := 23) (e := 34) (len := 1) (size := 6) (z := .agg #[.int .i64 0, .int .i64 0, .int .i64 0, .int .i64 0, .int .i64 0, .slice none 0 0]) (ps := [(0, .agg #[.int .i64 v19, .int .i64 0, .int .i64 v23, .int .i64 0, .int .i64 0, .slice fa fs.length fc])]) (cs := #[.int .i64 v19, .int .i64 0, .int .i64 v23, .int .i64 0, .int .i64 0, .slice fa fs.length fc]) M484 (by kernel_rfl) Try.underlying23 (by kernel_rfl) rfl rfl (by kernel_rfl) ?_))))
           intro g485 w486 hb487 ⟨bg485, lg485⟩ M488
           refine SL.appendM (d := 156) (ts := [23, 23]) (ty := 23) (vs := [.slice ta i2 tc, .slice (some ⟨g485, 0, none⟩) 1 1]) (k' := i2 + 1) (by kernel_rfl) (Mem.append (m := 1) (news := [.int .i64 v19, .int .i64 0, .int .i64 v23, .int .i64 0, .int .i64 0, .slice fa fs.length fc]) M488 3 rfl (ET.of Try.underlying23 (by kernel_rfl) (by decide) (by decide) : ET Try.prog 23 34 (.agg #[.int .i64 0, .int .i64 0, .int .i64 0, .int .i64 0, .int .i64 0, .slice none 0 0]) 6 64) (rd_box M488 0 rfl (by kernel_rfl) rfl) rfl (by intro u hu; simp only [List.mem_cons, List.not_mem_nil, or_false] at hu; rcases hu with rfl | rfl | rfl | rfl | rfl | rfl <;> rfl) (by omega) (by omega) (by omega)) ?_
           intro a489 c490 w491 M492 hk493
           refine SL.run (d := 157) (v := .pointer (some ⟨g17, 2, none⟩)) (by kernel_rfl) (SL.storeM (t := 23) (a := .pointer (some ⟨g17, 2, none⟩)) (v := .slice a489 (i2 + 1) c490) (by kernel_rfl) (M492.st1 5 rfl 2 rfl 23 rfl (by kernel_rfl) rfl) ?_)
           intro w494 M495 hk496 shk496
           refine SL.nil (SQ.blockNormal (SC.next (SC.region [0, 1, 2] (by kernel_rfl) (by kernel_rfl) (SL.run (d := 90) (v := .int .i64 i2) (by kernel_rfl) (SL.int (d := 91) (q := .i64) (x := IntKind.wrap .i64 (((i2 : Nat) : Int) + (1 : Int))) (y := ((i2 + 1 : Nat) : Int)) (wr64 (by omega) (by omega) (by omega)) (by kernel_rfl) (SL.run (d := 12) (v := .int .i64 ((i2 + 1 : Nat) : Int)) (by kernel_rfl) ?_))))))
           refine SL.nil ?_
           have es : StepI rTyp si2 ((⟨((v19 : Nat) : Int), 0, ((v23 : Nat) : Int), ⟨0, 0⟩, ⟨fa, fc, fs⟩⟩ : FT) : FT).d si4 := many_step hv23 hv24 (hlpf.exit rFld_reads.bad hlef hxi4) _ hv19 ph411
           have ex : (ts.flatMap ftD.cells) ++ [.int .i64 v19, .int .i64 0, .int .i64 v23, .int .i64 0, .int .i64 0, .slice fa fs.length fc] = (ts ++ [(⟨((v19 : Nat) : Int), 0, ((v23 : Nat) : Int), ⟨0, 0⟩, ⟨fa, fc, fs⟩⟩ : FT)]).flatMap ftD.cells := by rw [List.flatMap_append]; rfl
           rw [ex] at M495
           have M497 : Mem ⟨w6, (· = g5)⟩ w494 (typR ((⟨((v19 : Nat) : Int), 0, ((v23 : Nat) : Int), ⟨0, 0⟩, ⟨fa, fc, fs⟩⟩ : FT) : FT) :: ([bx g485 #[.int .i64 v19, .int .i64 0, .int .i64 v23, .int .i64 0, .int .i64 0, .slice fa fs.length fc] 34, bx g369 #[.int .i64 v19, .int .i64 0, .int .i64 v23, .int .i64 0, .int .i64 0, .slice fa fs.length fc] 34, rw' a489 (i2 + 1) c490 34 6 ((ts ++ [(⟨((v19 : Nat) : Int), 0, ((v23 : Nat) : Int), ⟨0, 0⟩, ⟨fa, fc, fs⟩⟩ : FT)]).flatMap ftD.cells), rw' ia is.length ic 86 2 (is.flatMap impD.cells), bx g17 #[.string v2, .slice ia is.length ic, .slice a489 (i2 + 1) c490, .slice none 0 0] 26, rrR ⟨a, c, l⟩ g5 si4] ++ (ts.map typR))) := Mem.front M495 1 rfl
           have M498 := Mem.toEnd M497 (L' := ([bx g485 #[.int .i64 v19, .int .i64 0, .int .i64 v23, .int .i64 0, .int .i64 0, .slice fa fs.length fc] 34, bx g369 #[.int .i64 v19, .int .i64 0, .int .i64 v23, .int .i64 0, .int .i64 0, .slice fa fs.length fc] 34, rw' a489 (i2 + 1) c490 34 6 ((ts ++ [(⟨((v19 : Nat) : Int), 0, ((v23 : Nat) : Int), ⟨0, 0⟩, ⟨fa, fc, fs⟩⟩ : FT)]).flatMap ftD.cells), rw' ia is.length ic 86 2 (is.flatMap impD.cells), bx g17 #[.string v2, .slice ia is.length ic, .slice a489 (i2 + 1) c490, .slice none 0 0] 26, rrR ⟨a, c, l⟩ g5 si4]) ++ ((ts ++ [(⟨((v19 : Nat) : Int), 0, ((v23 : Nat) : Int), ⟨0, 0⟩, ⟨fa, fc, fs⟩⟩ : FT)]).map typR)) tail_typ
           have M499 := Mem.dropN M498 2 (L' := [rw' a489 (i2 + 1) c490 34 6 ((ts ++ [(⟨((v19 : Nat) : Int), 0, ((v23 : Nat) : Int), ⟨0, 0⟩, ⟨fa, fc, fs⟩⟩ : FT)]).flatMap ftD.cells), rw' ia is.length ic 86 2 (is.flatMap impD.cells), bx g17 #[.string v2, .slice ia is.length ic, .slice a489 (i2 + 1) c490, .slice none 0 0] 26, rrR ⟨a, c, l⟩ g5 si4] ++ ((ts ++ [(⟨((v19 : Nat) : Int), 0, ((v23 : Nat) : Int), ⟨0, 0⟩, ⟨fa, fc, fs⟩⟩ : FT)]).map typR)) rfl
           exact ag357 ⟨i2 + 1, a489, c490, ts ++ [(⟨((v19 : Nat) : Int), 0, ((v23 : Nat) : Int), ⟨0, 0⟩, ⟨fa, fc, fs⟩⟩ : FT)], si4⟩ (by kernel_rfl) ⟨M499, by rw [List.length_append, hlent]; rfl, by omega, by rw [List.map_append]; exact hlpt.next rTyp_reads.bad es⟩ (by omega)
         ·skip
          have ph411 : ¬ (((v19 : Nat) : Int) = (2 : Int)) := of_decide_eq_false h411
          refine SL.bool (d := 108) (x := (((v19 : Nat) : Int) != (2 : Int))) (y := true) ((int_bne _ _).trans (by rw [h411]; rfl)) (by kernel_rfl) (SL.nil (SC.next (SC.yes (by kernel_rfl) (SC.seq (by kernel_rfl) (SC.region [0, 1, 2, 3] (by kernel_rfl) (by kernel_rfl) (SL.run (d := 109) (v := .pointer (some ⟨g5, 0, none⟩)) (by kernel_rfl) ?_))))))
          obtain ⟨v28, s28, hv28⟩ : ∃ x y, rRef s19 = (x, y) := ⟨_, _, rfl⟩
          refine SL.call (d := 110) (f := 44) (vs := [.pointer (some ⟨g5, 0, none⟩)]) (by kernel_rfl) (by kernel_rfl) (by have := refRf_walk (HR.now M374 4 rfl); rw [hv28] at this; exact this) ?_
          rintro e w500 ⟨rfl, hR, hk⟩
          refine ⟨_, rfl, ?_⟩
          have M502 := M374.rrr 4 rfl hR hk
          refine SL.run (d := 111) (v := .pointer (some ⟨g369, 3, none⟩)) (by kernel_rfl) (SL.storeM (t := 30) (a := .pointer (some ⟨g369, 3, none⟩)) (v := .agg #[.int .i64 v28.mod, .int .i64 v28.idx]) (by kernel_rfl) (M502.stPart 0 rfl 3 rfl (by kernel_rfl) rfl rfl) ?_)
          intro w503 M504 hk505 shk505
          refine SL.nil (SC.next (SC.seq (by kernel_rfl) (SC.region [0, 1, 2, 3, 4, 5, 6] (by kernel_rfl) (by kernel_rfl) (SL.run (d := 112) (v := .pointer (some ⟨g17, 2, none⟩)) (by kernel_rfl) (SL.load (d := 113) (t := 23) (a := .pointer (some ⟨g17, 2, none⟩)) (v := .slice ta i2 tc) (by kernel_rfl) (M504.ldCell 3 rfl (j := 2) (v := .slice ta i2 tc) rfl Try.underlying23 rfl) (SL.load (d := 114) (t := 34) (a := .pointer (some ⟨g369, 0, none⟩)) (v := .agg #[.int .i64 v19, .int .i64 0, .int .i64 0, .int .i64 v28.mod, .int .i64 v28.idx, .slice none 0 0]) (by kernel_rfl) (M504.ldBox 0 rfl Try.underlying34 rfl (by kernel_rfl)) ?_))))))
          refine SL.buildSliceM (d := 115) (t := 23) (e := 34) (len := 1) (size := 6) (z := .agg #[.int .i64 0, .int .i64 0, .int .i64 0, .int .i64 0, .int .i64 0, .slice none 0 0]) (ps := [(0, .agg #[.int .i64 v19, .int .i64 0, .int .i64 0, .int .i64 v28.mod, .int .i64 v28.idx, .slice none 0 0])]) (cs := #[.int .i64 v19, .int .i64 0, .int .i64 0, .int .i64 v28.mod, .int .i64 v28.idx, .slice none 0 0]) M504 (by kernel_rfl) Try.underlying23 (by kernel_rfl) rfl rfl (by kernel_rfl) ?_
          intro g506 w507 hb508 ⟨bg506, lg506⟩ M509
          refine SL.appendM (d := 116) (ts := [23, 23]) (ty := 23) (vs := [.slice ta i2 tc, .slice (some ⟨g506, 0, none⟩) 1 1]) (k' := i2 + 1) (by kernel_rfl) (Mem.append (m := 1) (news := [.int .i64 v19, .int .i64 0, .int .i64 0, .int .i64 v28.mod, .int .i64 v28.idx, .slice none 0 0]) M509 2 rfl (ET.of Try.underlying23 (by kernel_rfl) (by decide) (by decide) : ET Try.prog 23 34 (.agg #[.int .i64 0, .int .i64 0, .int .i64 0, .int .i64 0, .int .i64 0, .slice none 0 0]) 6 64) (rd_box M509 0 rfl (by kernel_rfl) rfl) rfl (by intro u hu; simp only [List.mem_cons, List.not_mem_nil, or_false] at hu; rcases hu with rfl | rfl | rfl | rfl | rfl | rfl <;> rfl) (by omega) (by omega) (by omega)) ?_
          intro a510 c511 w512 M513 hk514
          refine SL.run (d := 117) (v := .pointer (some ⟨g17, 2, none⟩)) (by kernel_rfl) (SL.storeM (t := 23) (a := .pointer (some ⟨g17, 2, none⟩)) (v := .slice a510 (i2 + 1) c511) (by kernel_rfl) (M513.st1 4 rfl 2 rfl 23 rfl (by kernel_rfl) rfl) ?_)
          intro w515 M516 hk517 shk517
          refine SL.nil (SC.next (SC.exit (i := 3) (by kernel_rfl) (SQ.seqExit (by nofun) (SQ.blockHere (SC.next (SC.region [0, 1, 2] (by kernel_rfl) (by kernel_rfl) ?_))))))
          refine SL.run (d := 90) (v := .int .i64 i2) (by kernel_rfl) (SL.int (d := 91) (q := .i64) (x := IntKind.wrap .i64 (((i2 : Nat) : Int) + (1 : Int))) (y := ((i2 + 1 : Nat) : Int)) (wr64 (by omega) (by omega) (by omega)) (by kernel_rfl) (SL.run (d := 12) (v := .int .i64 ((i2 + 1 : Nat) : Int)) (by kernel_rfl) (SL.nil ?_)))
          have es : StepI rTyp si2 ((⟨((v19 : Nat) : Int), 0, 0, ⟨v28.mod, v28.idx⟩, ⟨none, 0, []⟩⟩ : FT) : FT).d s28 := StepI.of (by unfold rTyp; rw [hv19]; dsimp only; rw [show rBody8 (v19 : Int) s19 = rBare s19 by unfold rBody8; rw [if_neg ph411, if_neg ph376]]; unfold rBare; rw [hv28]; rfl)
          have ex : (ts.flatMap ftD.cells) ++ [.int .i64 v19, .int .i64 0, .int .i64 0, .int .i64 v28.mod, .int .i64 v28.idx, .slice none 0 0] = (ts ++ [(⟨((v19 : Nat) : Int), 0, 0, ⟨v28.mod, v28.idx⟩, ⟨none, 0, []⟩⟩ : FT)]).flatMap ftD.cells := by rw [List.flatMap_append]; rfl
          rw [ex] at M516
          have M518 : Mem ⟨w6, (· = g5)⟩ w515 (typR ((⟨((v19 : Nat) : Int), 0, 0, ⟨v28.mod, v28.idx⟩, ⟨none, 0, []⟩⟩ : FT) : FT) :: ([bx g506 #[.int .i64 v19, .int .i64 0, .int .i64 0, .int .i64 v28.mod, .int .i64 v28.idx, .slice none 0 0] 34, bx g369 #[.int .i64 v19, .int .i64 0, .int .i64 0, .int .i64 v28.mod, .int .i64 v28.idx, .slice none 0 0] 34, rw' a510 (i2 + 1) c511 34 6 ((ts ++ [(⟨((v19 : Nat) : Int), 0, 0, ⟨v28.mod, v28.idx⟩, ⟨none, 0, []⟩⟩ : FT)]).flatMap ftD.cells), rw' ia is.length ic 86 2 (is.flatMap impD.cells), bx g17 #[.string v2, .slice ia is.length ic, .slice a510 (i2 + 1) c511, .slice none 0 0] 26, rrR ⟨a, c, l⟩ g5 s28] ++ (ts.map typR))) := Mem.addNil M516
          have M519 := Mem.toEnd M518 (L' := ([bx g506 #[.int .i64 v19, .int .i64 0, .int .i64 0, .int .i64 v28.mod, .int .i64 v28.idx, .slice none 0 0] 34, bx g369 #[.int .i64 v19, .int .i64 0, .int .i64 0, .int .i64 v28.mod, .int .i64 v28.idx, .slice none 0 0] 34, rw' a510 (i2 + 1) c511 34 6 ((ts ++ [(⟨((v19 : Nat) : Int), 0, 0, ⟨v28.mod, v28.idx⟩, ⟨none, 0, []⟩⟩ : FT)]).flatMap ftD.cells), rw' ia is.length ic 86 2 (is.flatMap impD.cells), bx g17 #[.string v2, .slice ia is.length ic, .slice a510 (i2 + 1) c511, .slice none 0 0] 26, rrR ⟨a, c, l⟩ g5 s28]) ++ ((ts ++ [(⟨((v19 : Nat) : Int), 0, 0, ⟨v28.mod, v28.idx⟩, ⟨none, 0, []⟩⟩ : FT)]).map typR)) tail_typ
          have M520 := Mem.dropN M519 2 (L' := [rw' a510 (i2 + 1) c511 34 6 ((ts ++ [(⟨((v19 : Nat) : Int), 0, 0, ⟨v28.mod, v28.idx⟩, ⟨none, 0, []⟩⟩ : FT)]).flatMap ftD.cells), rw' ia is.length ic 86 2 (is.flatMap impD.cells), bx g17 #[.string v2, .slice ia is.length ic, .slice a510 (i2 + 1) c511, .slice none 0 0] 26, rrR ⟨a, c, l⟩ g5 s28] ++ ((ts ++ [(⟨((v19 : Nat) : Int), 0, 0, ⟨v28.mod, v28.idx⟩, ⟨none, 0, []⟩⟩ : FT)]).map typR)) rfl
          exact ag357 ⟨i2 + 1, a510, c511, ts ++ [(⟨((v19 : Nat) : Int), 0, 0, ⟨v28.mod, v28.idx⟩, ⟨none, 0, []⟩⟩ : FT)], s28⟩ (by kernel_rfl) ⟨M520, by rw [List.length_append, hlent]; rfl, by omega, by rw [List.map_append]; exact hlpt.next rTyp_reads.bad es⟩ (by omega)
       ·skip
        refine SL.run (d := 88) (v := .bool false) (by kernel_rfl) (SL.pick (d := 89) (v := .bool false) (by kernel_rfl) (SL.nil ?_))
        have hxi2 : i2 = v5 ∨ si2 = none := .inr (by rw [rhsz363]; rfl)
        have M521 := Mem.rrClose (D := ⟨a, c, l⟩) M362 3 rfl rhiz363 rhsz363
        refine SC.next (SC.no (by kernel_rfl) (SC.exit (i := 2) (by kernel_rfl) (SQ.seqExit (by nofun) (ex358 (by nofun) (SQ.blockHere ?_)))))
        have hle2 := hlpt.exit (n := v5) rTyp_reads.bad hlet hxi2
        subst hlent
        exact ag350 ⟨ta, tc, ts, si2⟩ (by kernel_rfl) ⟨M521, hle2⟩
      ·skip
       have ph364 : ¬ (((i2 : Nat) : Int) < ((v5 : Nat) : Int)) := of_decide_eq_false h364
       refine SL.bool (d := 82) (x := (decide (((i2 : Nat) : Int) < ((v5 : Nat) : Int)))) (y := false) h364 (by kernel_rfl) (SL.run (d := 83) (v := .bool false) (by kernel_rfl) (SL.offs [4, 5, 6, 7, 8] (is := [9]) rfl (by kernel_rfl) (SL.pick (d := 89) (v := .bool false) (by kernel_rfl) (SL.nil ?_))))
       have hxi2 : i2 = v5 ∨ si2 = none := .inl (by omega)
       have M522 := Mem.rrClose (D := ⟨a, c, l⟩) M362 3 rfl rhiz363 rhsz363
       refine SC.next (SC.no (by kernel_rfl) (SC.exit (i := 2) (by kernel_rfl) (SQ.seqExit (by nofun) (ex358 (by nofun) (SQ.blockHere ?_)))))
       have hle2 := hlpt.exit (n := v5) rTyp_reads.bad hlet hxi2
       subst hlent
       exact ag350 ⟨ta, tc, ts, si2⟩ (by kernel_rfl) ⟨M522, hle2⟩
    ·skip
     intro Q523 ag524 ex525 pn526
     refine SC.seq (by kernel_rfl) (SC.region [0] (by kernel_rfl) (by kernel_rfl) (SL.run (d := 10) (v := .int .i64 0) (by kernel_rfl) (SL.nil (SC.next (SC.block (i := 0) (by kernel_rfl) ?_)))))
     have M527 : Mem ⟨w6, (· = g5)⟩ w34 ([rw' none 0 0 86 2 [], bx g17 #[.string v2, .slice none 0 0, .slice none 0 0, .slice none 0 0] 26, rrR ⟨a, c, l⟩ g5 s4]) := Mem.addNil M36
     refine SC.loopA (X := Nat × Option Addr × Nat × List Imp × St) (fun x => [(0, .slice a l.length c), (2, .pointer (some ⟨g1, 0, none⟩)), (3, .int .u32 0), (4, .bool false), (5, .pointer (some ⟨g5, 0, none⟩)), (6, .int .u32 4294967295), (7, .pointer (some ⟨g17, 0, none⟩)), (8, .int .u32 v3), (9, .int .i64 v4), (10, .int .i64 ((x.1 : Nat) : Int))]) (fun x wr => Mem ⟨w6, (· = g5)⟩ wr ([rw' x.2.1 x.1 x.2.2.1 86 2 (x.2.2.2.1.flatMap impD.cells), bx g17 #[.string v2, .slice x.2.1 x.1 x.2.2.1, .slice none 0 0, .slice none 0 0] 26, rrR ⟨a, c, l⟩ g5 x.2.2.2.2]) ∧ (x.2.2.2.1.length = x.1 ∧ x.1 ≤ v4 ∧ LoopI rImp8 x.1 s4 (x.2.2.2.1) x.2.2.2.2)) (fun x => v4 + 1 - x.1) (PanOk.block pn526) (by kernel_rfl) ⟨0, none, 0, [], s4⟩ (by kernel_rfl) ⟨M527, rfl, Nat.zero_le _, LoopI.zero _ _⟩ ?_
     rintro ⟨i1, ia, ic, is, si1⟩ w533 ⟨M534, hI528⟩ Q529 ag530 ex531 pn532
     replace M534 : Mem ⟨w6, (· = g5)⟩ w533 ([rw' ia i1 ic 86 2 (is.flatMap impD.cells), bx g17 #[.string v2, .slice ia i1 ic, .slice none 0 0, .slice none 0 0] 26, rrR ⟨a, c, l⟩ g5 si1]) := M534
     replace hI528 : is.length = i1 ∧ i1 ≤ v4 ∧ LoopI rImp8 i1 s4 (is) si1 := hI528
     show SC _ _ _ _ _ [(0, .slice a l.length c), (2, .pointer (some ⟨g1, 0, none⟩)), (3, .int .u32 0), (4, .bool false), (5, .pointer (some ⟨g5, 0, none⟩)), (6, .int .u32 4294967295), (7, .pointer (some ⟨g17, 0, none⟩)), (8, .int .u32 v3), (9, .int .i64 v4), (10, .int .i64 i1)] _
     obtain ⟨hleni, hlei, hlpi⟩ := hI528
     refine SC.seq (by kernel_rfl) (SC.seq (by kernel_rfl) ?_)
     obtain ⟨riz536, rbz536, M535, rhiz536, rhsz536⟩ := M534.rrOpen 2 rfl
     dsimp only at rhiz536 rhsz536
     replace rhsz536 : si1 = stOf rbz536 (l.drop riz536) := rhsz536
     refine SC.region [0, 1, 2, 3, 4, 5, 6, 7, 8, 9] (by kernel_rfl) (by kernel_rfl) (SL.run (d := 54) (v := .int .i64 i1) (by kernel_rfl) (SL.run (d := 55) (v := .int .i64 v4) (by kernel_rfl) ?_))
     rcases Bool.eq_false_or_eq_true (decide (((i1 : Nat) : Int) < ((v4 : Nat) : Int))) with h537 | h537
     ·skip
      have ph537 : ((i1 : Nat) : Int) < ((v4 : Nat) : Int) := of_decide_eq_true h537
      refine SL.bool (d := 56) (x := (decide (((i1 : Nat) : Int) < ((v4 : Nat) : Int)))) (y := true) h537 (by kernel_rfl) (SL.run (d := 57) (v := .bool true) (by kernel_rfl) (SL.run (d := 58) (v := .pointer (some ⟨g5, 0, none⟩)) (by kernel_rfl) (SL.run (d := 59) (v := .pointer (some ⟨g5, 0, none⟩)) (by kernel_rfl) (SL.run (d := 60) (v := .pointer (some ⟨g5, 2, none⟩)) (by kernel_rfl) (SL.load (d := 61) (t := 4) (a := .pointer (some ⟨g5, 2, none⟩)) (v := .bool rbz536) (by kernel_rfl) (M535.ldCell 2 rfl (j := 2) (v := .bool rbz536) rfl Try.underlying4 rfl) ?_)))))
      cases rbz536
      ·skip
       refine SL.run (d := 62) (v := .bool true) (by kernel_rfl) (SL.pick (d := 63) (v := .bool true) (by kernel_rfl) (SL.nil ?_))
       have M538 := Mem.rrClose (D := ⟨a, c, l⟩) M535 2 rfl rhiz536 rhsz536
       refine SC.next (SC.yes (by kernel_rfl) (SC.skip (by kernel_rfl) (SC.next (SC.seq (by kernel_rfl) (SC.block (i := 1) (by kernel_rfl) (SC.seq (by kernel_rfl) ?_))))))
       refine SC.region [0, 1, 2] (by kernel_rfl) (by kernel_rfl) (SL.run (d := 66) (v := .pointer (some ⟨g5, 0, none⟩)) (by kernel_rfl) ?_)
       obtain ⟨v29, s29, hv29⟩ : ∃ x y, rNm si1 = (x, y) := ⟨_, _, rfl⟩
       refine SL.call (d := 67) (f := 41) (vs := [.pointer (some ⟨g5, 0, none⟩)]) (by kernel_rfl) (by kernel_rfl) (by have := refNm_walk (HR.now M538 2 rfl) ha; rw [hv29] at this; exact this) ?_
       rintro e w539 ⟨rfl, hR, hk⟩
       refine ⟨_, rfl, ?_⟩
       have M541 := M538.rrr 2 rfl hR hk
       refine SL.run (d := 11) (v := .string v29) (by kernel_rfl) (SL.nil (SC.next ?_))
       obtain ⟨G542, hG543⟩ : ∃ G : Nat → Prop, G = GK w539 ([rw' ia i1 ic 86 2 (is.flatMap impD.cells), bx g17 #[.string v2, .slice ia i1 ic, .slice none 0 0, .slice none 0 0] 26, rrR ⟨a, c, l⟩ g5 s29]) [0, 2] := ⟨_, rfl⟩
       refine SC.tail G542 [([0, 1, 2, 3, 4], 5), ([6], 7), ([], 8)] [9] 10 [9, 8, 7, 6, 5, 4, 3, 2, 1, 0] (by kernel_rfl) (by kernel_rfl) (by kernel_rfl) (PanOk.block (PanOk.seq pn532)) ?_
       intro w544 hb545
       have M546 := M541.call hb545
       have acc547 : Ke G542 w539 w544 := Ke.below _ hb545
       refine ST.step (SU.run (d := 68) (v := .pointer (some ⟨g17, 1, none⟩)) (fun y hy => by kernel_rfl) (SU.load (d := 69) (t := 22) (b := .pointer (some ⟨g17, 1, none⟩)) (v := .slice ia i1 ic) (by kernel_rfl) (fun y hy => ((Mem.alone M541 hG543 1 rfl (by decide) (Ke.trans acc547 hy)).ldCell 0 rfl (j := 1) (v := .slice ia i1 ic) rfl Try.underlying22 rfl)) (SU.run (d := 70) (v := .string v29) (fun y hy => by kernel_rfl) (SU.run (d := 71) (v := .pointer (some ⟨g5, 0, none⟩)) (fun y hy => by kernel_rfl) (SU.run (d := 72) (v := .int .u32 4294967295) (fun y hy => by kernel_rfl) (SU.go ?_))))))
       obtain ⟨v30, s30, hv30, bv30⟩ := rnum_nat (HR.now M546 2 rfl) 4294967295 (by decide)
       have ahv30 := hv30
       rw [rNum_all (HR.now M546 2 rfl).sb] at hv30
       refine SL.call (d := 73) (f := 42) (vs := [.pointer (some ⟨g5, 0, none⟩), .int .u32 4294967295]) (by kernel_rfl) (by kernel_rfl) (by have := refWord8_walk (HR.now M546 2 rfl) 4294967295 (by decide) (by decide); rw [ahv30] at this; exact this) ?_
       rintro e w548 ⟨rfl, hR, hk⟩
       refine ⟨_, rfl, ?_⟩
       have M550 := M546.rrr 2 rfl hR hk
       have ke551 : Ke G542 _ _ := Ke.mono hk (fun i _ e => GK.own hG543 2 (by decide) rfl e)
       have acc552 := Ke.trans acc547 ke551
       refine SL.nil (ST.back ke551 (ST.step (SU.build (d := 74) (t := 86) (ps := [(0, .string v29), (1, .int .u32 v30)]) (cs := #[.string v29, .int .u32 v30]) (by kernel_rfl) (by kernel_rfl) (SU.go (SL.buildSliceM (d := 75) (t := 22) (e := 86) (len := 1) (size := 2) (z := .agg #[.string ⟨#[]⟩, .int .u32 0]) (ps := [(0, .agg #[.string v29, .int .u32 v30])]) (cs := #[.string v29, .int .u32 v30]) M550 (by kernel_rfl) Try.underlying22 (by kernel_rfl) rfl rfl (by kernel_rfl) ?_)))))
       intro g553 w554 hb555 ⟨bg553, lg553⟩ M556
       have ke557 : Ke G542 _ _ := Ke.below _ hb555
       have ng553 : G542 g553 := GK.new hG543 (Nat.le_trans (Ke.size acc552) bg553)
       have acc558 := Ke.trans acc552 ke557
       refine SL.nil (ST.back ke557 (ST.step (SU.go (SL.appendM (d := 76) (ts := [22, 22]) (ty := 22) (vs := [.slice ia i1 ic, .slice (some ⟨g553, 0, none⟩) 1 1]) (k' := i1 + 1) (by kernel_rfl) (Mem.append (m := 1) (news := [.string v29, .int .u32 v30]) M556 1 rfl (ET.of Try.underlying22 (by kernel_rfl) (by decide) (by decide) : ET Try.prog 22 86 (.agg #[.string ⟨#[]⟩, .int .u32 0]) 2 24) (rd_box M556 0 rfl (by kernel_rfl) rfl) rfl (by intro u hu; simp only [List.mem_cons, List.not_mem_nil, or_false] at hu; rcases hu with rfl | rfl <;> rfl) (by omega) (by omega) (by omega)) ?_))))
       intro a559 c560 w561 M562 hk563
       have ke564 : Ke G542 _ _ := Ke.mono hk563 (fun i _ e => GK.own hG543 0 (by decide) rfl e)
       have acc565 := Ke.trans acc558 ke564
       refine SL.nil (ST.back ke564 (ST.last (SU.run (d := 77) (v := .pointer (some ⟨g17, 1, none⟩)) (fun y hy => by kernel_rfl) (SU.go (SL.storeM (t := 22) (a := .pointer (some ⟨g17, 1, none⟩)) (v := .slice a559 (i1 + 1) c560) (by kernel_rfl) (M562.st1 2 rfl 1 rfl 22 rfl (by kernel_rfl) rfl) ?_)))))
       intro w566 M567 hk568 shk568
       refine SL.nil (ST.done (SQ.blockNormal (SC.next (SC.region [0, 1, 2] (by kernel_rfl) (by kernel_rfl) (SL.run (d := 64) (v := .int .i64 i1) (by kernel_rfl) (SL.int (d := 65) (q := .i64) (x := IntKind.wrap .i64 (((i1 : Nat) : Int) + (1 : Int))) (y := ((i1 + 1 : Nat) : Int)) (wr64 (by omega) (by omega) (by omega)) (by kernel_rfl) ?_))))))
       refine SL.run (d := 10) (v := .int .i64 ((i1 + 1 : Nat) : Int)) (by kernel_rfl) (SL.nil ?_)
       have es : StepI rImp8 si1 ((⟨v29, (v30 : Int)⟩ : Imp)) s30 := StepI.of (by unfold rImp8; rw [hv29]; dsimp only; rw [hv30])
       have ex : (is.flatMap impD.cells) ++ [.string v29, .int .u32 v30] = (is ++ [(⟨v29, (v30 : Int)⟩ : Imp)]).flatMap impD.cells := by rw [List.flatMap_append]; rfl
       rw [ex] at M567
       have M569 := Mem.dropN M567 1 (L' := [rw' a559 (i1 + 1) c560 86 2 ((is ++ [(⟨v29, (v30 : Int)⟩ : Imp)]).flatMap impD.cells), bx g17 #[.string v2, .slice a559 (i1 + 1) c560, .slice none 0 0, .slice none 0 0] 26, rrR ⟨a, c, l⟩ g5 s30]) rfl
       exact ag530 ⟨i1 + 1, a559, c560, is ++ [(⟨v29, (v30 : Int)⟩ : Imp)], s30⟩ (by kernel_rfl) ⟨M569, by rw [List.length_append, hleni]; rfl, by omega, by exact hlpi.next rImp8_reads.bad es⟩ (by omega)
      ·skip
       refine SL.run (d := 62) (v := .bool false) (by kernel_rfl) (SL.pick (d := 63) (v := .bool false) (by kernel_rfl) (SL.nil ?_))
       have hxi1 : i1 = v4 ∨ si1 = none := .inr (by rw [rhsz536]; rfl)
       have M570 := Mem.rrClose (D := ⟨a, c, l⟩) M535 2 rfl rhiz536 rhsz536
       refine SC.next (SC.no (by kernel_rfl) (SC.exit (i := 0) (by kernel_rfl) (SQ.seqExit (by nofun) (ex531 (by nofun) (SQ.blockHere ?_)))))
       have hle2 := hlpi.exit (n := v4) rImp8_reads.bad hlei hxi1
       subst hleni
       exact ag524 ⟨ia, ic, is, si1⟩ (by kernel_rfl) ⟨M570, hle2⟩
     ·skip
      have ph537 : ¬ (((i1 : Nat) : Int) < ((v4 : Nat) : Int)) := of_decide_eq_false h537
      refine SL.bool (d := 56) (x := (decide (((i1 : Nat) : Int) < ((v4 : Nat) : Int)))) (y := false) h537 (by kernel_rfl) (SL.run (d := 57) (v := .bool false) (by kernel_rfl) (SL.offs [4, 5, 6, 7, 8] (is := [9]) rfl (by kernel_rfl) (SL.pick (d := 63) (v := .bool false) (by kernel_rfl) (SL.nil ?_))))
      have hxi1 : i1 = v4 ∨ si1 = none := .inl (by omega)
      have M571 := Mem.rrClose (D := ⟨a, c, l⟩) M535 2 rfl rhiz536 rhsz536
      refine SC.next (SC.no (by kernel_rfl) (SC.exit (i := 0) (by kernel_rfl) (SQ.seqExit (by nofun) (ex531 (by nofun) (SQ.blockHere ?_)))))
      have hle2 := hlpi.exit (n := v4) rImp8_reads.bad hlei hxi1
      subst hleni
      exact ag524 ⟨ia, ic, is, si1⟩ (by kernel_rfl) ⟨M571, hle2⟩
   ·skip
    have ph32 : ¬ (kk = ((v3 : Nat) : Int)) := of_decide_eq_false h32
    have hkey : ∀ r, s3 = some r → ¬ Key.of r = (v3 : Int) := fun r hr' => by rw [rhsz28] at hr'; have := Option.some.inj hr'; subst this; rw [hkk]; exact ph32
    refine SL.bool (d := 49) (x := (kk != ((v3 : Nat) : Int))) (y := true) ((int_bne _ _).trans (by rw [h32]; rfl)) (by kernel_rfl) (SL.pick (d := 50) (v := .bool true) (by kernel_rfl) (SL.nil (SC.next (SC.keep (l' := [(0, .slice a l.length c), (2, .pointer (some ⟨g1, 0, none⟩)), (3, .int .u32 0), (4, .bool false), (5, .pointer (some ⟨g5, 0, none⟩)), (6, .int .u32 4294967295), (7, .pointer (some ⟨g17, 0, none⟩)), (8, .int .u32 v3), (50, .bool true)]) [0, 2, 3, 4, 5, 6, 7, 8, 50] (by kernel_rfl) (SC.yes (by kernel_rfl) (SC.seq (by kernel_rfl) ?_))))))
    have M572 : Mem w w24 ([bx g17 #[.string v2, .slice none 0 0, .slice none 0 0, .slice none 0 0] 26, bx g5 #[.slice a l.length c, .int .i64 riz28, .bool false] 92, bx g1 #[.string ⟨#[]⟩, .slice none 0 0, .slice none 0 0, .slice none 0 0] 26]) := Mem.frame M8 M27 rfl
    refine SC.region [0, 1, 2, 3] (by kernel_rfl) (by kernel_rfl) (SL.build (d := 51) (t := 26) (ps := []) (cs := #[.string ⟨#[]⟩, .slice none 0 0, .slice none 0 0, .slice none 0 0]) (by kernel_rfl) (by kernel_rfl) (SL.storeM (t := 26) (a := .pointer (some ⟨g1, 0, none⟩)) (v := .agg #[.string ⟨#[]⟩, .slice none 0 0, .slice none 0 0, .slice none 0 0]) (by kernel_rfl) (M572.stBox 2 rfl rfl (by kernel_rfl) rfl) ?_))
    intro w573 M574 hk575 shk575
    refine SL.run (d := 3) (v := .int .u32 0) (by kernel_rfl) (SL.run (d := 4) (v := .bool false) (by kernel_rfl) (SL.nil (SC.next (SC.ret (by kernel_rfl) (SQ.seqExit (by nofun) ?_)))))
    refine SQ.retE (P := Try.prog) (v := .tuple #[.agg #[.string ⟨#[]⟩, .slice none 0 0, .slice none 0 0, .slice none 0 0], .int .u32 0, .bool false]) (.inr rfl) (fun a ha => ?_) ?_
    ·exact res_c_t_t (by kernel_rfl) (ha.getD (t := 2) (v := .pointer (some ⟨g1, 0, none⟩)) (by kernel_rfl)) (ha.getD (t := 3) (v := .int .u32 0) (by kernel_rfl)) (ha.getD (t := 4) (v := .bool false) (by kernel_rfl)) (M574.ldBox 2 rfl Try.underlying26 rfl (by kernel_rfl))
    exact ⟨.inl ⟨ofF_key hsm hv2 hv3 hkey, rfl⟩, M574.bel⟩
  ·skip
   have hkey : ∀ r, s3 = some r → ¬ Key.of r = (v3 : Int) := fun r hr' => by rw [rhsz28] at hr'; cases hr'
   refine SL.offs [5, 6, 7, 8, 9, 10, 11, 12, 13] (is := [14]) rfl (by kernel_rfl) (SL.pick (d := 50) (v := .bool true) (by kernel_rfl) (SL.nil (SC.next (SC.keep (l' := [(0, .slice a l.length c), (2, .pointer (some ⟨g1, 0, none⟩)), (3, .int .u32 0), (4, .bool false), (5, .pointer (some ⟨g5, 0, none⟩)), (6, .int .u32 4294967295), (7, .pointer (some ⟨g17, 0, none⟩)), (8, .int .u32 v3), (50, .bool true)]) [0, 2, 3, 4, 5, 6, 7, 8, 50] (by kernel_rfl) (SC.yes (by kernel_rfl) (SC.seq (by kernel_rfl) ?_))))))
   have M576 : Mem w w24 ([bx g17 #[.string v2, .slice none 0 0, .slice none 0 0, .slice none 0 0] 26, bx g5 #[.slice a l.length c, .int .i64 riz28, .bool true] 92, bx g1 #[.string ⟨#[]⟩, .slice none 0 0, .slice none 0 0, .slice none 0 0] 26]) := Mem.frame M8 M27 rfl
   refine SC.region [0, 1, 2, 3] (by kernel_rfl) (by kernel_rfl) (SL.build (d := 51) (t := 26) (ps := []) (cs := #[.string ⟨#[]⟩, .slice none 0 0, .slice none 0 0, .slice none 0 0]) (by kernel_rfl) (by kernel_rfl) (SL.storeM (t := 26) (a := .pointer (some ⟨g1, 0, none⟩)) (v := .agg #[.string ⟨#[]⟩, .slice none 0 0, .slice none 0 0, .slice none 0 0]) (by kernel_rfl) (M576.stBox 2 rfl rfl (by kernel_rfl) rfl) ?_))
   intro w577 M578 hk579 shk579
   refine SL.run (d := 3) (v := .int .u32 0) (by kernel_rfl) (SL.run (d := 4) (v := .bool false) (by kernel_rfl) (SL.nil (SC.next (SC.ret (by kernel_rfl) (SQ.seqExit (by nofun) ?_)))))
   refine SQ.retE (P := Try.prog) (v := .tuple #[.agg #[.string ⟨#[]⟩, .slice none 0 0, .slice none 0 0, .slice none 0 0], .int .u32 0, .bool false]) (.inr rfl) (fun a ha => ?_) ?_
   ·exact res_c_t_t (by kernel_rfl) (ha.getD (t := 2) (v := .pointer (some ⟨g1, 0, none⟩)) (by kernel_rfl)) (ha.getD (t := 3) (v := .int .u32 0) (by kernel_rfl)) (ha.getD (t := 4) (v := .bool false) (by kernel_rfl)) (M578.ldBox 2 rfl Try.underlying26 rfl (by kernel_rfl))
   exact ⟨.inl ⟨ofF_key hsm hv2 hv3 hkey, rfl⟩, M578.bel⟩
 ·skip
  have ph13 : ¬ ((strOf l2) = (⟨#[83, 49]⟩ : ByteArray)) := of_decide_eq_false h13
  refine SL.bool (d := 28) (x := (!((strOf l2).toList == (⟨#[83, 49]⟩ : ByteArray).toList))) (y := true) ((str_bne _ _).trans (by rw [h13]; rfl)) (by kernel_rfl) (SL.nil (SC.next (SC.yes (by kernel_rfl) (SC.seq (by kernel_rfl) ?_))))
  have M580 : Mem w w10 ([rrR ⟨a, c, l⟩ g5 s0, bx g1 #[.string ⟨#[]⟩, .slice none 0 0, .slice none 0 0, .slice none 0 0] 26]) := Mem.frame M8 M12 rfl
  refine SC.region [0, 1, 2, 3] (by kernel_rfl) (by kernel_rfl) (SL.build (d := 29) (t := 26) (ps := []) (cs := #[.string ⟨#[]⟩, .slice none 0 0, .slice none 0 0, .slice none 0 0]) (by kernel_rfl) (by kernel_rfl) (SL.storeM (t := 26) (a := .pointer (some ⟨g1, 0, none⟩)) (v := .agg #[.string ⟨#[]⟩, .slice none 0 0, .slice none 0 0, .slice none 0 0]) (by kernel_rfl) (M580.stBox 1 rfl rfl (by kernel_rfl) rfl) ?_))
  intro w581 M582 hk583 shk583
  refine SL.run (d := 3) (v := .int .u32 0) (by kernel_rfl) (SL.run (d := 4) (v := .bool false) (by kernel_rfl) (SL.nil (SC.next (SC.ret (by kernel_rfl) (SQ.seqExit (by nofun) ?_)))))
  refine SQ.retE (P := Try.prog) (v := .tuple #[.agg #[.string ⟨#[]⟩, .slice none 0 0, .slice none 0 0, .slice none 0 0], .int .u32 0, .bool false]) (.inr rfl) (fun a ha => ?_) ?_
  ·exact res_c_t_t (by kernel_rfl) (ha.getD (t := 2) (v := .pointer (some ⟨g1, 0, none⟩)) (by kernel_rfl)) (ha.getD (t := 3) (v := .int .u32 0) (by kernel_rfl)) (ha.getD (t := 4) (v := .bool false) (by kernel_rfl)) (M582.ldBox 1 rfl Try.underlying26 rfl (by kernel_rfl))
  exact ⟨.inl ⟨ofF_magic hs2 (fun e => ph13 (by rw [e]; rfl)), rfl⟩, M582.bel⟩
end Go.Proofs.Ytfnibpkojhgflaa
