/- Walk: symfile.Of. Printed by bin/gen_symof.py. -/
import Derived.Test.YtfnibpkojhgflaaSymOf0
import Derived.Test.YtfnibpkojhgflaaSymClone
import Derived.Test.YtfnibpkojhgflaaFaceMay
import Derived.Test.YtfnibpkojhgflaaKeyWalks
namespace Go.Proofs.Ytfnibpkojhgflaa
set_option linter.unusedVariables false
set_option linter.unusedSimpArgs false
open Go.RowKit
theorem tail_typ {A : List Res} {ts : List FT} {t : FT} : (A ++ ts.map typR) ++ [typR t] = A ++ (ts ++ [t]).map typR := by rw [List.map_append, List.append_assoc]; rfl
theorem tail_obj {A : List Res} {ts : List FT} {os : List FO} {t : FO} : (A ++ (ts.map typR ++ os.map objR)) ++ [objR t] = A ++ (ts.map typR ++ (os ++ [t]).map objR) := by rw [List.map_append]; simp only [List.append_assoc]; rfl

set_option maxHeartbeats 2000000 in
theorem of8_walk (a : Option Addr) (c : Nat) (l : List Int) (w : World) (hr : RdI .u8 w a c l) (hl : l.length ≤ 100000000) (ha : a = none ∨ ∃ b o, a = some ⟨b, o, none⟩) :
  Calls Try.prog 17 #[.slice a l.length c] w fun e w' => ReadsAs l e w' ∧ Below w.heap.size w w' := by
 refine SC.enter (vs := [.slice a l.length c]) (n := 93) (l := [(0, .slice a l.length c)]) Try.func17 (by kernel_rfl) (by kernel_rfl) (by kernel_rfl) (by kernel_rfl) ?_
 have M0 := Mem.start w
 refine SC.seq (by kernel_rfl) (SC.region [0, 1, 2] (by kernel_rfl) (by kernel_rfl) (SL.allocM (d := 2) (t := 26) (z := .agg #[.string ⟨#[]⟩, .slice none 0 0, .slice none 0 0, .slice none 0 0]) (cs := #[.string ⟨#[]⟩, .slice none 0 0, .slice none 0 0, .slice none 0 0]) M0 (by kernel_rfl) (by kernel_rfl) rfl ?_))
 intro g1 w2 hb3 ⟨bg1, lg1⟩ M4
 refine SL.run (d := 3) (v := .int .u32 0) (by kernel_rfl) (SL.run (d := 4) (v := .int .i64 0) (by kernel_rfl) (SL.nil (SC.next (SC.seq (by kernel_rfl) (SC.region [0, 1, 2, 3, 4] (by kernel_rfl) (by kernel_rfl) (SL.run (d := 9) (v := .slice a l.length c) (by kernel_rfl) ?_))))))
 have hr1 := hr.below M4.bel (Nat.le_refl _)
 refine SL.call (d := 10) (f := 31) (vs := [.slice a l.length c]) (by kernel_rfl) (by kernel_rfl) (clone_walk a c l w2 hr1 hl ha) ?_
 rintro e w5 ⟨a1, c1, rfl, hrd, hfl, hb6⟩
 refine ⟨_, rfl, ?_⟩
 have M7 := M4.call hb6
 refine SL.build (d := 11) (t := 79) (ps := [(0, .slice a1 l.length c1)]) (cs := #[.slice a1 l.length c1, .bool false]) (by kernel_rfl) (by kernel_rfl) (SL.boxM (d := 12) (t := 79) (v := .agg #[.slice a1 l.length c1, .bool false]) (cs := #[.slice a1 l.length c1, .bool false]) M7 (by kernel_rfl) rfl ?_)
 intro g8 w9 hb10 ⟨bg8, lg8⟩ M11
 refine SL.run (d := 5) (v := .pointer (some ⟨g8, 0, none⟩)) (by kernel_rfl) (SL.nil ?_)
 have HR : Rdr w5 w9 g8 (some l) := ⟨bg8, M11.lt 0 rfl rfl, hb10, a1, c1, l, false, M11.get 0 rfl, hrd, hfl, rfl⟩
 have M12 := HR.mem
 refine SC.next (SC.seq (by kernel_rfl) (SC.seq (by kernel_rfl) (SC.region [0, 1, 2, 3] (by kernel_rfl) (by kernel_rfl) (SL.run (d := 13) (v := .pointer (some ⟨g8, 0, none⟩)) (by kernel_rfl) ?_))))
 obtain ⟨l2, s0, hs2⟩ := some_list 2 (some l)
 refine SL.call (d := 14) (f := 32) (vs := [.pointer (some ⟨g8, 0, none⟩), .int .i64 2]) (by kernel_rfl) (by kernel_rfl) (by have := some_walk (HR.now M12 0 rfl) 2 (by decide); rw [hs2] at this; exact this) ?_
 rintro e w13 ⟨a2, c2, rfl, hr2, _, _, hR, hk⟩
 refine ⟨_, rfl, ?_⟩
 have M15 := M12.rdr 0 rfl hR hk
 refine SL.ex (d := 15) (m := convert 46 9 (.slice a2 l2.length c2)) (v := .string (strOf l2)) (by kernel_rfl) (run_str_of (hr2.below (HR.now M15 0 rfl).bel (Nat.le_refl _)) Try.underlying46 Try.underlying5 Try.underlying9) ?_
 rcases Bool.eq_false_or_eq_true (decide ((strOf l2) = (⟨#[83, 49]⟩ : ByteArray))) with h16 | h16
 ·skip
  have ph16 : (strOf l2) = (⟨#[83, 49]⟩ : ByteArray) := of_decide_eq_true h16
  have hl2 : ∀ x ∈ l2, isByte x := fun x hx => bd_u8 (hr2.bd x hx)
  have em := magic_of hl2 ph16
  have hsm : rSome 2 (some l) = ([83, 49], s0) := by rw [hs2, em]
  have hsb0 := (HR.now M15 0 rfl).sb
  refine SL.bool (d := 16) (x := (!((strOf l2).toList == (⟨#[83, 49]⟩ : ByteArray).toList))) (y := false) ((str_bne _ _).trans (by rw [h16]; rfl)) (by kernel_rfl) (SL.nil (SC.next (SC.no (by kernel_rfl) (SC.skip (by kernel_rfl) (SC.next (SC.seq (by kernel_rfl) ?_))))))
  refine SC.region [0, 1, 2, 3, 4] (by kernel_rfl) (by kernel_rfl) (SL.run (d := 18) (v := .pointer (some ⟨g8, 0, none⟩)) (by kernel_rfl) ?_)
  obtain ⟨v2, s2, hv2⟩ : ∃ x y, rNm s0 = (x, y) := ⟨_, _, rfl⟩
  refine SL.call (d := 19) (f := 33) (vs := [.pointer (some ⟨g8, 0, none⟩)]) (by kernel_rfl) (by kernel_rfl) (by have := name_walk (HR.now M15 0 rfl); rw [hv2] at this; exact this) ?_
  rintro e w17 ⟨rfl, hR, hk⟩
  refine ⟨_, rfl, ?_⟩
  have M19 := M15.rdr 0 rfl hR hk
  refine SL.build (d := 20) (t := 26) (ps := [(0, .string v2)]) (cs := #[.string v2, .slice none 0 0, .slice none 0 0, .slice none 0 0]) (by kernel_rfl) (by kernel_rfl) (SL.allocM (d := 6) (t := 26) (z := .agg #[.string ⟨#[]⟩, .slice none 0 0, .slice none 0 0, .slice none 0 0]) (cs := #[.string ⟨#[]⟩, .slice none 0 0, .slice none 0 0, .slice none 0 0]) M19 (by kernel_rfl) (by kernel_rfl) rfl ?_)
  intro g20 w21 hb22 ⟨bg20, lg20⟩ M23
  refine SL.storeM (t := 26) (a := .pointer (some ⟨g20, 0, none⟩)) (v := .agg #[.string v2, .slice none 0 0, .slice none 0 0, .slice none 0 0]) (by kernel_rfl) (M23.stBox 0 rfl rfl (by kernel_rfl) rfl) ?_
  intro w24 M25 hk26 shk26
  refine SL.nil (SC.next (SC.seq (by kernel_rfl) (SC.region [0, 1, 2] (by kernel_rfl) (by kernel_rfl) (SL.run (d := 21) (v := .pointer (some ⟨g8, 0, none⟩)) (by kernel_rfl) ?_))))
  obtain ⟨v3, s3, hv3, bv3⟩ := word_nat (HR.now M25 1 rfl)
  refine SL.call (d := 22) (f := 34) (vs := [.pointer (some ⟨g8, 0, none⟩)]) (by kernel_rfl) (by kernel_rfl) (by have := word_walk (HR.now M25 1 rfl); rw [hv3] at this; exact this) ?_
  rintro e w27 ⟨rfl, hR, hk⟩
  refine ⟨_, rfl, ?_⟩
  have M29 := M25.rdr 1 rfl hR hk
  refine SL.run (d := 7) (v := .int .u32 v3) (by kernel_rfl) (SL.nil (SC.next (SC.keep (l' := [(2, .pointer (some ⟨g1, 0, none⟩)), (3, .int .u32 0), (4, .int .i64 0), (5, .pointer (some ⟨g8, 0, none⟩)), (6, .pointer (some ⟨g20, 0, none⟩)), (7, .int .u32 v3)]) [2, 3, 4, 5, 6, 7] (by kernel_rfl) (SC.seq (by kernel_rfl) (SC.seq (by kernel_rfl) ?_)))))
  obtain ⟨ra, rc, rl, rb, M30, rhr, rhf, rhs⟩ := M29.rdOpen 1 rfl
  replace rhs : s3 = stOf rb rl := rhs
  refine SC.region [0, 1, 2, 3, 4, 5, 6, 7] (by kernel_rfl) (by kernel_rfl) (SL.run (d := 23) (v := .pointer (some ⟨g8, 0, none⟩)) (by kernel_rfl) (SL.run (d := 24) (v := .pointer (some ⟨g8, 0, none⟩)) (by kernel_rfl) (SL.run (d := 25) (v := .pointer (some ⟨g8, 0, none⟩)) (by kernel_rfl) (SL.load (d := 26) (t := 46) (a := .pointer (some ⟨g8, 0, none⟩)) (v := .slice ra rl.length rc) (by kernel_rfl) (M30.ldCell 1 rfl (j := 0) (v := .slice ra rl.length rc) rfl Try.underlying46 rfl) (SL.buildSliceM (d := 27) (t := 58) (e := 46) (len := 1) (size := 1) (z := .slice none 0 0) (ps := [(0, .slice ra rl.length rc)]) (cs := #[.slice ra rl.length rc]) M30 (by kernel_rfl) Try.underlying58 (by kernel_rfl) rfl rfl (by kernel_rfl) ?_)))))
  intro g31 w32 hb33 ⟨bg31, lg31⟩ M34
  have hrk : RdII .u8 w32 (some ⟨g31, 0, none⟩) 1 [rl] := by
   have hrn := rhr.below (bel_keg HR.bel HR.low M34.ke) (Nat.le_refl _)
   refine ⟨⟨g31, 0, fun _ => ⟨rfl, M34.lt 0 rfl rfl⟩, fun i hi => ?_⟩, (fun h => by cases h), Nat.le_refl _, by unfold maxLen; decide⟩
   obtain rfl : i = 0 := by simpa using hi
   exact ⟨ra, rc, (M34.at 0 rfl).cell 0, hrn⟩
  obtain ⟨kk, hkk⟩ : ∃ k, Key.of rl = k := ⟨_, rfl⟩
  refine SL.call (d := 28) (f := 35) (vs := [.slice (some ⟨g31, 0, none⟩) 1 1]) (by kernel_rfl) (by kernel_rfl) (by have := of_any (some ⟨g31, 0, none⟩) [rl] 1 w32 hrk; simp only [List.flatten_cons, List.flatten_nil, List.append_nil] at this; rw [hkk] at this; exact this) ?_
  rintro e w35 ⟨rfl, hb36⟩
  refine ⟨_, rfl, ?_⟩
  have M37 := M34.call hb36
  refine SL.run (d := 29) (v := .int .u32 v3) (by kernel_rfl) ?_
  rcases Bool.eq_false_or_eq_true (decide (kk = ((v3 : Nat) : Int))) with h38 | h38
  ·skip
   have ph38 : kk = ((v3 : Nat) : Int) := of_decide_eq_true h38
   have hkey : ∀ r, s3 = some r → Key.of r = (v3 : Int) := fun r hr' => by rw [rhs] at hr'; cases rb with | true => cases hr' | false => (obtain rfl := Option.some.inj hr'; rw [hkk]; exact ph38)
   have M39 := M37.rdClose 2 rfl rhr rhf rhs
   have hsb3 := (HR.now M39 2 rfl).sb
   refine SL.bool (d := 30) (x := (kk != ((v3 : Nat) : Int))) (y := false) ((int_bne _ _).trans (by rw [h38]; rfl)) (by kernel_rfl) (SL.nil (SC.next (SC.no (by kernel_rfl) (SC.skip (by kernel_rfl) (SC.next (SC.seq (by kernel_rfl) ?_))))))
   refine SC.seq (by kernel_rfl) (SC.region [0, 1, 2] (by kernel_rfl) (by kernel_rfl) (SL.run (d := 32) (v := .pointer (some ⟨g8, 0, none⟩)) (by kernel_rfl) ?_))
   obtain ⟨v4, s4, hv4, bv4⟩ := byte_nat (HR.now M39 2 rfl)
   refine SL.call (d := 33) (f := 36) (vs := [.pointer (some ⟨g8, 0, none⟩)]) (by kernel_rfl) (by kernel_rfl) (by have := byte_walk (HR.now M39 2 rfl); rw [hv4] at this; exact this) ?_
   rintro e w40 ⟨rfl, hR, hk⟩
   refine ⟨_, rfl, ?_⟩
   have M42 := M39.rdr 2 rfl hR hk
   refine SL.run (d := 34) (v := .int .i64 0) (by kernel_rfl) (SL.nil (SC.next (SC.block (i := 0) (by kernel_rfl) ?_)))
   have M43 : Mem ⟨w9, (· = g8)⟩ w40 ([rw' none 0 0 86 2 [], bx g31 #[.slice ra rl.length rc] 46, bx g20 #[.string v2, .slice none 0 0, .slice none 0 0, .slice none 0 0] 26, rdR w5 g8 s4]) := Mem.addNil M42
   have M44 := M43.keep [0, 2, 3] rfl (L' := [rw' none 0 0 86 2 [], bx g20 #[.string v2, .slice none 0 0, .slice none 0 0, .slice none 0 0] 26, rdR w5 g8 s4]) rfl
   refine SC.loopA (X := Nat × Option Addr × Nat × List Imp × St) (fun x => [(2, .pointer (some ⟨g1, 0, none⟩)), (3, .int .u32 0), (4, .int .i64 0), (5, .pointer (some ⟨g8, 0, none⟩)), (6, .pointer (some ⟨g20, 0, none⟩)), (7, .int .u32 v3), (33, .int .i64 v4), (34, .int .i64 ((x.1 : Nat) : Int))]) (fun x wr => Mem ⟨w9, (· = g8)⟩ wr ([rw' x.2.1 x.1 x.2.2.1 86 2 (x.2.2.2.1.flatMap impD.cells), bx g20 #[.string v2, .slice x.2.1 x.1 x.2.2.1, .slice none 0 0, .slice none 0 0] 26, rdR w5 g8 x.2.2.2.2]) ∧ (x.2.2.2.1.length = x.1 ∧ x.1 ≤ v4 ∧ rLoop rImp8 x.1 s4 = (x.2.2.2.1, x.2.2.2.2))) (fun x => v4 + 1 - x.1) (PanOk.block (PanOk.seq PanOk.body)) (by kernel_rfl) ⟨0, none, 0, [], s4⟩ (by kernel_rfl) ⟨M44, rfl, Nat.zero_le _, rfl⟩ ?_
   rintro ⟨i1, ia, ic, is, si1⟩ w50 ⟨M51, hI45⟩ Q46 ag47 ex48 pn49
   replace M51 : Mem ⟨w9, (· = g8)⟩ w50 ([rw' ia i1 ic 86 2 (is.flatMap impD.cells), bx g20 #[.string v2, .slice ia i1 ic, .slice none 0 0, .slice none 0 0] 26, rdR w5 g8 si1]) := M51
   replace hI45 : is.length = i1 ∧ i1 ≤ v4 ∧ rLoop rImp8 i1 s4 = (is, si1) := hI45
   show SC _ _ _ _ _ [(2, .pointer (some ⟨g1, 0, none⟩)), (3, .int .u32 0), (4, .int .i64 0), (5, .pointer (some ⟨g8, 0, none⟩)), (6, .pointer (some ⟨g20, 0, none⟩)), (7, .int .u32 v3), (33, .int .i64 v4), (34, .int .i64 i1)] _
   obtain ⟨hlen, hle, hloop⟩ := hI45
   refine SC.seq (by kernel_rfl) (SC.region [0] (by kernel_rfl) (by kernel_rfl) ?_)
   rcases Bool.eq_false_or_eq_true (decide (((i1 : Nat) : Int) < ((v4 : Nat) : Int))) with h52 | h52
   ·skip
    have ph52 : ((i1 : Nat) : Int) < ((v4 : Nat) : Int) := of_decide_eq_true h52
    refine SL.bool (d := 35) (x := (decide (((i1 : Nat) : Int) < ((v4 : Nat) : Int)))) (y := true) h52 (by kernel_rfl) (SL.nil (SC.next (SC.seq (by kernel_rfl) (SC.yes (by kernel_rfl) (SC.skip (by kernel_rfl) (SC.next ?_))))))
    refine SC.seq (by kernel_rfl) (SC.block (i := 1) (by kernel_rfl) (SC.seq (by kernel_rfl) (SC.region [0, 1, 2, 3, 4] (by kernel_rfl) (by kernel_rfl) (SL.run (d := 36) (v := .pointer (some ⟨g8, 0, none⟩)) (by kernel_rfl) ?_))))
    obtain ⟨v5, s5, hv5⟩ : ∃ x y, rNm si1 = (x, y) := ⟨_, _, rfl⟩
    refine SL.call (d := 37) (f := 33) (vs := [.pointer (some ⟨g8, 0, none⟩)]) (by kernel_rfl) (by kernel_rfl) (by have := name_walk (HR.now M51 2 rfl); rw [hv5] at this; exact this) ?_
    rintro e w53 ⟨rfl, hR, hk⟩
    refine ⟨_, rfl, ?_⟩
    have M55 := M51.rdr 2 rfl hR hk
    refine SL.build (d := 38) (t := 86) (ps := [(0, .string v5)]) (cs := #[.string v5, .int .u32 0]) (by kernel_rfl) (by kernel_rfl) (SL.allocM (d := 8) (t := 86) (z := .agg #[.string ⟨#[]⟩, .int .u32 0]) (cs := #[.string ⟨#[]⟩, .int .u32 0]) M55 (by kernel_rfl) (by kernel_rfl) rfl ?_)
    intro g56 w57 hb58 ⟨bg56, lg56⟩ M59
    refine SL.storeM (t := 86) (a := .pointer (some ⟨g56, 0, none⟩)) (v := .agg #[.string v5, .int .u32 0]) (by kernel_rfl) (M59.stBox 0 rfl rfl (by kernel_rfl) rfl) ?_
    intro w60 M61 hk62 shk62
    refine SL.nil (SC.next (SC.seq (by kernel_rfl) (SC.region [0, 1, 2, 3] (by kernel_rfl) (by kernel_rfl) (SL.run (d := 39) (v := .pointer (some ⟨g8, 0, none⟩)) (by kernel_rfl) ?_))))
    obtain ⟨v6, s6, hv6, bv6⟩ := word_nat (HR.now M61 3 rfl)
    refine SL.call (d := 40) (f := 34) (vs := [.pointer (some ⟨g8, 0, none⟩)]) (by kernel_rfl) (by kernel_rfl) (by have := word_walk (HR.now M61 3 rfl); rw [hv6] at this; exact this) ?_
    rintro e w63 ⟨rfl, hR, hk⟩
    refine ⟨_, rfl, ?_⟩
    have M65 := M61.rdr 3 rfl hR hk
    refine SL.run (d := 41) (v := .pointer (some ⟨g56, 1, none⟩)) (by kernel_rfl) (SL.storeM (t := 39) (a := .pointer (some ⟨g56, 1, none⟩)) (v := .int .u32 v6) (by kernel_rfl) (M65.st1 0 rfl 1 rfl 39 rfl (by kernel_rfl) rfl) ?_)
    intro w66 M67 hk68 shk68
    refine SL.nil (SC.next (SC.region [0, 1, 2, 3, 4, 5, 6] (by kernel_rfl) (by kernel_rfl) (SL.run (d := 42) (v := .pointer (some ⟨g20, 1, none⟩)) (by kernel_rfl) (SL.load (d := 43) (t := 22) (a := .pointer (some ⟨g20, 1, none⟩)) (v := .slice ia i1 ic) (by kernel_rfl) (M67.ldCell 2 rfl (j := 1) (v := .slice ia i1 ic) rfl Try.underlying22 rfl) (SL.load (d := 44) (t := 86) (a := .pointer (some ⟨g56, 0, none⟩)) (v := .agg #[.string v5, .int .u32 v6]) (by kernel_rfl) (M67.ldBox 0 rfl Try.underlying86 rfl (by kernel_rfl)) (SL.buildSliceM (d := 45) (t := 22) (e := 86) (len := 1) (size := 2) (z := .agg #[.string ⟨#[]⟩, .int .u32 0]) (ps := [(0, .agg #[.string v5, .int .u32 v6])]) (cs := #[.string v5, .int .u32 v6]) M67 (by kernel_rfl) Try.underlying22 (by kernel_rfl) rfl rfl (by kernel_rfl) ?_))))))
    intro g69 w70 hb71 ⟨bg69, lg69⟩ M72
    refine SL.appendM (d := 46) (ts := [22, 22]) (ty := 22) (vs := [.slice ia i1 ic, .slice (some ⟨g69, 0, none⟩) 1 1]) (k' := i1 + 1) (by kernel_rfl) (Mem.append (m := 1) (news := [.string v5, .int .u32 v6]) M72 2 rfl (ET.of Try.underlying22 (by kernel_rfl) (by decide) (by decide) : ET Try.prog 22 86 (.agg #[.string ⟨#[]⟩, .int .u32 0]) 2 24) (rd_box M72 0 rfl (by kernel_rfl) rfl) rfl (by intro u hu; simp only [List.mem_cons, List.not_mem_nil, or_false] at hu; rcases hu with rfl | rfl <;> rfl) (by omega) (by omega) (by omega)) ?_
    intro a73 c74 w75 M76 hk77
    refine SL.run (d := 47) (v := .pointer (some ⟨g20, 1, none⟩)) (by kernel_rfl) (SL.storeM (t := 22) (a := .pointer (some ⟨g20, 1, none⟩)) (v := .slice a73 (i1 + 1) c74) (by kernel_rfl) (M76.st1 3 rfl 1 rfl 22 rfl (by kernel_rfl) rfl) ?_)
    intro w78 M79 hk80 shk80
    refine SL.nil (SQ.blockNormal (SC.next (SC.region [0, 1] (by kernel_rfl) (by kernel_rfl) (SL.int (d := 48) (q := .i64) (x := IntKind.wrap .i64 (((i1 : Nat) : Int) + (1 : Int))) (y := ((i1 + 1 : Nat) : Int)) (wr64 (by omega) (by omega) (by omega)) (by kernel_rfl) (SL.run (d := 34) (v := .int .i64 ((i1 + 1 : Nat) : Int)) (by kernel_rfl) (SL.nil ?_))))))
    have e1 : rImp8 si1 = ((⟨v5, (v6 : Int)⟩ : Imp), s6) := by unfold rImp8; rw [hv5]; dsimp only; rw [hv6]
    have ex : (is.flatMap impD.cells) ++ [.string v5, .int .u32 v6] = (is ++ [(⟨v5, (v6 : Int)⟩ : Imp)]).flatMap impD.cells := by rw [List.flatMap_append]; rfl
    rw [ex] at M79
    have M81 := Mem.dropN M79 2 (L' := [rw' a73 (i1 + 1) c74 86 2 ((is ++ [(⟨v5, (v6 : Int)⟩ : Imp)]).flatMap impD.cells), bx g20 #[.string v2, .slice a73 (i1 + 1) c74, .slice none 0 0, .slice none 0 0] 26, rdR w5 g8 s6]) rfl
    exact ag47 ⟨i1 + 1, a73, c74, is ++ [(⟨v5, (v6 : Int)⟩ : Imp)], s6⟩ (by kernel_rfl) ⟨M81, by rw [List.length_append, hlen]; rfl, by omega, rLoop_snoc _ _ _ hloop e1⟩ (by omega)
   ·skip
    have ph52 : ¬ (((i1 : Nat) : Int) < ((v4 : Nat) : Int)) := of_decide_eq_false h52
    have hiv : i1 = v4 := by omega
    have hli := hloop
    rw [hiv] at hli
    have hsb5 := (HR.now M51 2 rfl).sb
    refine SL.bool (d := 35) (x := (decide (((i1 : Nat) : Int) < ((v4 : Nat) : Int)))) (y := false) h52 (by kernel_rfl) (SL.nil (SC.next (SC.seq (by kernel_rfl) (SC.no (by kernel_rfl) (SC.exit (i := 0) (by kernel_rfl) (SQ.seqExit (by nofun) ?_))))))
    refine ex48 (by nofun) (SQ.blockHere (SC.next (SC.seq (by kernel_rfl) (SC.seq (by kernel_rfl) ?_))))
    subst hlen
    refine SC.region [0, 1, 2] (by kernel_rfl) (by kernel_rfl) (SL.run (d := 49) (v := .pointer (some ⟨g8, 0, none⟩)) (by kernel_rfl) ?_)
    obtain ⟨v7, s7, hv7, bv7⟩ := byte_nat (HR.now M51 2 rfl)
    refine SL.call (d := 50) (f := 36) (vs := [.pointer (some ⟨g8, 0, none⟩)]) (by kernel_rfl) (by kernel_rfl) (by have := byte_walk (HR.now M51 2 rfl); rw [hv7] at this; exact this) ?_
    rintro e w82 ⟨rfl, hR, hk⟩
    refine ⟨_, rfl, ?_⟩
    have M84 := M51.rdr 2 rfl hR hk
    refine SL.run (d := 51) (v := .int .i64 0) (by kernel_rfl) (SL.nil (SC.next (SC.block (i := 2) (by kernel_rfl) ?_)))
    have M85 : Mem ⟨w9, (· = g8)⟩ w82 ([rw' none 0 0 34 6 [], rw' ia is.length ic 86 2 (is.flatMap impD.cells), bx g20 #[.string v2, .slice ia is.length ic, .slice none 0 0, .slice none 0 0] 26, rdR w5 g8 s7]) := Mem.addNil M84
    have M86 : Mem ⟨w9, (· = g8)⟩ w82 ([rw' none 0 0 34 6 [], rw' ia is.length ic 86 2 (is.flatMap impD.cells), bx g20 #[.string v2, .slice ia is.length ic, .slice none 0 0, .slice none 0 0] 26, rdR w5 g8 s7] ++ ([].map typR)) := by have := M85; simpa using this
    refine SC.loopA (X := Nat × Option Addr × Nat × List FT × St) (fun x => [(2, .pointer (some ⟨g1, 0, none⟩)), (3, .int .u32 0), (4, .int .i64 0), (5, .pointer (some ⟨g8, 0, none⟩)), (6, .pointer (some ⟨g20, 0, none⟩)), (7, .int .u32 v3), (50, .int .i64 v7), (51, .int .i64 ((x.1 : Nat) : Int))]) (fun x wr => Mem ⟨w9, (· = g8)⟩ wr ([rw' x.2.1 x.1 x.2.2.1 34 6 (x.2.2.2.1.flatMap ftD.cells), rw' ia is.length ic 86 2 (is.flatMap impD.cells), bx g20 #[.string v2, .slice ia is.length ic, .slice x.2.1 x.1 x.2.2.1, .slice none 0 0] 26, rdR w5 g8 x.2.2.2.2] ++ (x.2.2.2.1.map typR)) ∧ (x.2.2.2.1.length = x.1 ∧ x.1 ≤ v7 ∧ rLoop rTyp x.1 s7 = (x.2.2.2.1.map FT.d, x.2.2.2.2))) (fun x => v7 + 1 - x.1) (PanOk.block (PanOk.seq PanOk.body)) (by kernel_rfl) ⟨0, none, 0, [], s7⟩ (by kernel_rfl) ⟨M86, rfl, Nat.zero_le _, rfl⟩ ?_
    rintro ⟨i2, ta, tc, ts, si2⟩ w92 ⟨M93, hI87⟩ Q88 ag89 ex90 pn91
    replace M93 : Mem ⟨w9, (· = g8)⟩ w92 ([rw' ta i2 tc 34 6 (ts.flatMap ftD.cells), rw' ia is.length ic 86 2 (is.flatMap impD.cells), bx g20 #[.string v2, .slice ia is.length ic, .slice ta i2 tc, .slice none 0 0] 26, rdR w5 g8 si2] ++ (ts.map typR)) := M93
    replace hI87 : ts.length = i2 ∧ i2 ≤ v7 ∧ rLoop rTyp i2 s7 = (ts.map FT.d, si2) := hI87
    show SC _ _ _ _ _ [(2, .pointer (some ⟨g1, 0, none⟩)), (3, .int .u32 0), (4, .int .i64 0), (5, .pointer (some ⟨g8, 0, none⟩)), (6, .pointer (some ⟨g20, 0, none⟩)), (7, .int .u32 v3), (50, .int .i64 v7), (51, .int .i64 i2)] _
    obtain ⟨hlen, hle, hloop⟩ := hI87
    refine SC.seq (by kernel_rfl) (SC.region [0] (by kernel_rfl) (by kernel_rfl) ?_)
    rcases Bool.eq_false_or_eq_true (decide (((i2 : Nat) : Int) < ((v7 : Nat) : Int))) with h94 | h94
    ·skip
     have ph94 : ((i2 : Nat) : Int) < ((v7 : Nat) : Int) := of_decide_eq_true h94
     refine SL.bool (d := 52) (x := (decide (((i2 : Nat) : Int) < ((v7 : Nat) : Int)))) (y := true) h94 (by kernel_rfl) (SL.nil (SC.next (SC.seq (by kernel_rfl) (SC.yes (by kernel_rfl) (SC.skip (by kernel_rfl) (SC.next ?_))))))
     refine SC.seq (by kernel_rfl) (SC.block (i := 3) (by kernel_rfl) ?_)
     obtain ⟨G95, hG96⟩ : ∃ G : Nat → Prop, G = GK w92 ([rw' ta i2 tc 34 6 (ts.flatMap ftD.cells), rw' ia is.length ic 86 2 (is.flatMap impD.cells), bx g20 #[.string v2, .slice ia is.length ic, .slice ta i2 tc, .slice none 0 0] 26, rdR w5 g8 si2] ++ (ts.map typR)) [0, 1, 3] := ⟨_, rfl⟩
     refine SC.tail G95 [([0, 1, 2], 3), ([], 4), ([], 5)] [6] 7 [6, 5, 4, 3, 2, 1, 0] (by kernel_rfl) (by kernel_rfl) (by kernel_rfl) (PanOk.block (PanOk.seq pn91)) ?_
     intro w97 hb98
     have M99 := M93.call hb98
     have acc100 : Ke G95 w92 w97 := Ke.below _ hb98
     refine ST.step (SU.run (d := 53) (v := .pointer (some ⟨g20, 2, none⟩)) (fun y hy => by kernel_rfl) (SU.load (d := 54) (t := 23) (b := .pointer (some ⟨g20, 2, none⟩)) (v := .slice ta i2 tc) (by kernel_rfl) (fun y hy => ((Mem.alone M93 hG96 2 rfl (by decide) (Ke.trans acc100 hy)).ldCell 0 rfl (j := 2) (v := .slice ta i2 tc) rfl Try.underlying23 rfl)) (SU.run (d := 55) (v := .pointer (some ⟨g8, 0, none⟩)) (fun y hy => by kernel_rfl) (SU.go ?_))))
     obtain ⟨v8, s8, hv8⟩ : ∃ x y, rTyp si2 = (x, y) := ⟨_, _, rfl⟩
     refine SL.call (d := 56) (f := 37) (vs := [.pointer (some ⟨g8, 0, none⟩)]) (by kernel_rfl) (by kernel_rfl) (by have := oneType_walk (HR.now M99 3 rfl); rw [hv8] at this; exact this) ?_
     rintro e w101 ⟨t8, rfl, ht8, hnew, hR, hk⟩
     refine ⟨_, rfl, ?_⟩
     have M103 := M99.rdrNew 3 rfl hR hk hnew.1 hnew.2
     have ke104 : Ke G95 _ _ := Ke.mono hk (fun i _ e => GK.own hG96 3 (by decide) rfl e)
     have acc105 := Ke.trans acc100 ke104
     refine SL.nil (ST.back ke104 (ST.step (SU.go (SL.buildSliceM (d := 57) (t := 23) (e := 34) (len := 1) (size := 6) (z := .agg #[.int .i64 0, .int .i64 0, .int .i64 0, .int .i64 0, .int .i64 0, .slice none 0 0]) (ps := [(0, .agg #[.int .i64 t8.form, .int .i64 t8.len, .int .i64 t8.size, .int .i64 t8.base.mod, .int .i64 t8.base.idx, .slice t8.fields.a t8.fields.l.length t8.fields.c])]) (cs := #[.int .i64 t8.form, .int .i64 t8.len, .int .i64 t8.size, .int .i64 t8.base.mod, .int .i64 t8.base.idx, .slice t8.fields.a t8.fields.l.length t8.fields.c]) M103 (by kernel_rfl) Try.underlying23 (by kernel_rfl) rfl rfl (by kernel_rfl) ?_))))
     intro g106 w107 hb108 ⟨bg106, lg106⟩ M109
     have ke110 : Ke G95 _ _ := Ke.below _ hb108
     have ng106 : G95 g106 := GK.new hG96 (Nat.le_trans (Ke.size acc105) bg106)
     have acc111 := Ke.trans acc105 ke110
     refine SL.nil (ST.back ke110 (ST.step (SU.go (SL.appendM (d := 58) (ts := [23, 23]) (ty := 23) (vs := [.slice ta i2 tc, .slice (some ⟨g106, 0, none⟩) 1 1]) (k' := i2 + 1) (by kernel_rfl) (Mem.append (m := 1) (news := [.int .i64 t8.form, .int .i64 t8.len, .int .i64 t8.size, .int .i64 t8.base.mod, .int .i64 t8.base.idx, .slice t8.fields.a t8.fields.l.length t8.fields.c]) M109 2 rfl (ET.of Try.underlying23 (by kernel_rfl) (by decide) (by decide) : ET Try.prog 23 34 (.agg #[.int .i64 0, .int .i64 0, .int .i64 0, .int .i64 0, .int .i64 0, .slice none 0 0]) 6 64) (rd_box M109 0 rfl (by kernel_rfl) rfl) rfl (by intro u hu; simp only [List.mem_cons, List.not_mem_nil, or_false] at hu; rcases hu with rfl | rfl | rfl | rfl | rfl | rfl <;> rfl) (by omega) (by omega) (by omega)) ?_))))
     intro a112 c113 w114 M115 hk116
     have ke117 : Ke G95 _ _ := Ke.mono hk116 (fun i _ e => GK.own hG96 0 (by decide) rfl e)
     have acc118 := Ke.trans acc111 ke117
     refine SL.nil (ST.back ke117 (ST.last (SU.run (d := 59) (v := .pointer (some ⟨g20, 2, none⟩)) (fun y hy => by kernel_rfl) (SU.go (SL.storeM (t := 23) (a := .pointer (some ⟨g20, 2, none⟩)) (v := .slice a112 (i2 + 1) c113) (by kernel_rfl) (M115.st1 4 rfl 2 rfl 23 rfl (by kernel_rfl) rfl) ?_)))))
     intro w119 M120 hk121 shk121
     refine SL.nil (ST.done (SQ.blockNormal (SC.next (SC.region [0, 1] (by kernel_rfl) (by kernel_rfl) (SL.int (d := 60) (q := .i64) (x := IntKind.wrap .i64 (((i2 : Nat) : Int) + (1 : Int))) (y := ((i2 + 1 : Nat) : Int)) (wr64 (by omega) (by omega) (by omega)) (by kernel_rfl) (SL.run (d := 51) (v := .int .i64 ((i2 + 1 : Nat) : Int)) (by kernel_rfl) ?_))))))
     refine SL.nil ?_
     have e1 : rTyp si2 = (t8.d, s8) := by rw [hv8, ht8]
     have ex : (ts.flatMap ftD.cells) ++ [.int .i64 t8.form, .int .i64 t8.len, .int .i64 t8.size, .int .i64 t8.base.mod, .int .i64 t8.base.idx, .slice t8.fields.a t8.fields.l.length t8.fields.c] = (ts ++ [t8]).flatMap ftD.cells := by rw [List.flatMap_append]; rfl
     rw [ex] at M120
     have M122 : Mem ⟨w9, (· = g8)⟩ w119 (typR t8 :: ([bx g106 #[.int .i64 t8.form, .int .i64 t8.len, .int .i64 t8.size, .int .i64 t8.base.mod, .int .i64 t8.base.idx, .slice t8.fields.a t8.fields.l.length t8.fields.c] 34, rw' a112 (i2 + 1) c113 34 6 ((ts ++ [t8]).flatMap ftD.cells), rw' ia is.length ic 86 2 (is.flatMap impD.cells), bx g20 #[.string v2, .slice ia is.length ic, .slice a112 (i2 + 1) c113, .slice none 0 0] 26, rdR w5 g8 s8] ++ (ts.map typR))) := Mem.front M120 1 rfl
     have M123 := Mem.toEnd M122 (L' := ([bx g106 #[.int .i64 t8.form, .int .i64 t8.len, .int .i64 t8.size, .int .i64 t8.base.mod, .int .i64 t8.base.idx, .slice t8.fields.a t8.fields.l.length t8.fields.c] 34, rw' a112 (i2 + 1) c113 34 6 ((ts ++ [t8]).flatMap ftD.cells), rw' ia is.length ic 86 2 (is.flatMap impD.cells), bx g20 #[.string v2, .slice ia is.length ic, .slice a112 (i2 + 1) c113, .slice none 0 0] 26, rdR w5 g8 s8]) ++ (ts ++ [t8]).map typR) tail_typ
     have M124 := Mem.dropN M123 1 (L' := [rw' a112 (i2 + 1) c113 34 6 ((ts ++ [t8]).flatMap ftD.cells), rw' ia is.length ic 86 2 (is.flatMap impD.cells), bx g20 #[.string v2, .slice ia is.length ic, .slice a112 (i2 + 1) c113, .slice none 0 0] 26, rdR w5 g8 s8] ++ (ts ++ [t8]).map typR) rfl
     exact ag89 ⟨i2 + 1, a112, c113, ts ++ [t8], s8⟩ (by kernel_rfl) ⟨M124, by rw [List.length_append, hlen]; rfl, by omega, by rw [List.map_append]; exact rLoop_snoc _ _ _ hloop e1⟩ (by omega)
    ·skip
     have ph94 : ¬ (((i2 : Nat) : Int) < ((v7 : Nat) : Int)) := of_decide_eq_false h94
     have hiv : i2 = v7 := by omega
     have hlt := hloop
     rw [hiv] at hlt
     have hsb7 := (HR.now M93 3 rfl).sb
     refine SL.bool (d := 52) (x := (decide (((i2 : Nat) : Int) < ((v7 : Nat) : Int)))) (y := false) h94 (by kernel_rfl) (SL.nil (SC.next (SC.seq (by kernel_rfl) (SC.no (by kernel_rfl) (SC.exit (i := 2) (by kernel_rfl) (SQ.seqExit (by nofun) ?_))))))
     refine ex90 (by nofun) (SQ.blockHere (SC.next (SC.seq (by kernel_rfl) (SC.seq (by kernel_rfl) ?_))))
     subst hlen
     refine SC.region [0, 1, 2] (by kernel_rfl) (by kernel_rfl) (SL.run (d := 61) (v := .pointer (some ⟨g8, 0, none⟩)) (by kernel_rfl) ?_)
     obtain ⟨v9, s9, hv9, bv9⟩ := num_nat (HR.now M93 3 rfl) 900 (by decide)
     refine SL.call (d := 62) (f := 38) (vs := [.pointer (some ⟨g8, 0, none⟩), .int .i64 900]) (by kernel_rfl) (by kernel_rfl) (by have := number_walk (HR.now M93 3 rfl) 900 (by decide) (by decide); rw [hv9] at this; exact this) ?_
     rintro e w125 ⟨rfl, hR, hk⟩
     refine ⟨_, rfl, ?_⟩
     have M127 := M93.rdr 3 rfl hR hk
     refine SL.run (d := 63) (v := .int .i64 0) (by kernel_rfl) (SL.nil (SC.next (SC.block (i := 4) (by kernel_rfl) ?_)))
     have M128 : Mem ⟨w9, (· = g8)⟩ w125 ([rw' none 0 0 42 6 [], rw' ta ts.length tc 34 6 (ts.flatMap ftD.cells), rw' ia is.length ic 86 2 (is.flatMap impD.cells), bx g20 #[.string v2, .slice ia is.length ic, .slice ta ts.length tc, .slice none 0 0] 26, rdR w5 g8 s9] ++ (ts.map typR)) := Mem.addNil M127
     have M129 : Mem ⟨w9, (· = g8)⟩ w125 ([rw' none 0 0 42 6 [], rw' ta ts.length tc 34 6 (ts.flatMap ftD.cells), rw' ia is.length ic 86 2 (is.flatMap impD.cells), bx g20 #[.string v2, .slice ia is.length ic, .slice ta ts.length tc, .slice none 0 0] 26, rdR w5 g8 s9] ++ (ts.map typR ++ [].map objR)) := by have := M128; simpa using this
     refine SC.loopA (X := Nat × Option Addr × Nat × List FO × St) (fun x => [(2, .pointer (some ⟨g1, 0, none⟩)), (3, .int .u32 0), (4, .int .i64 0), (5, .pointer (some ⟨g8, 0, none⟩)), (6, .pointer (some ⟨g20, 0, none⟩)), (7, .int .u32 v3), (62, .int .i64 v9), (63, .int .i64 ((x.1 : Nat) : Int))]) (fun x wr => Mem ⟨w9, (· = g8)⟩ wr ([rw' x.2.1 x.1 x.2.2.1 42 6 (x.2.2.2.1.flatMap foD.cells), rw' ta ts.length tc 34 6 (ts.flatMap ftD.cells), rw' ia is.length ic 86 2 (is.flatMap impD.cells), bx g20 #[.string v2, .slice ia is.length ic, .slice ta ts.length tc, .slice x.2.1 x.1 x.2.2.1] 26, rdR w5 g8 x.2.2.2.2] ++ (ts.map typR ++ x.2.2.2.1.map objR)) ∧ (x.2.2.2.1.length = x.1 ∧ x.1 ≤ v9 ∧ rLoop rObj8 x.1 s9 = (x.2.2.2.1.map FO.d, x.2.2.2.2))) (fun x => v9 + 1 - x.1) (PanOk.block (PanOk.seq PanOk.body)) (by kernel_rfl) ⟨0, none, 0, [], s9⟩ (by kernel_rfl) ⟨M129, rfl, Nat.zero_le _, rfl⟩ ?_
     rintro ⟨i3, oa, oc, os, si3⟩ w135 ⟨M136, hI130⟩ Q131 ag132 ex133 pn134
     replace M136 : Mem ⟨w9, (· = g8)⟩ w135 ([rw' oa i3 oc 42 6 (os.flatMap foD.cells), rw' ta ts.length tc 34 6 (ts.flatMap ftD.cells), rw' ia is.length ic 86 2 (is.flatMap impD.cells), bx g20 #[.string v2, .slice ia is.length ic, .slice ta ts.length tc, .slice oa i3 oc] 26, rdR w5 g8 si3] ++ (ts.map typR ++ os.map objR)) := M136
     replace hI130 : os.length = i3 ∧ i3 ≤ v9 ∧ rLoop rObj8 i3 s9 = (os.map FO.d, si3) := hI130
     show SC _ _ _ _ _ [(2, .pointer (some ⟨g1, 0, none⟩)), (3, .int .u32 0), (4, .int .i64 0), (5, .pointer (some ⟨g8, 0, none⟩)), (6, .pointer (some ⟨g20, 0, none⟩)), (7, .int .u32 v3), (62, .int .i64 v9), (63, .int .i64 i3)] _
     obtain ⟨hlen, hle, hloop⟩ := hI130
     refine SC.seq (by kernel_rfl) (SC.region [0] (by kernel_rfl) (by kernel_rfl) ?_)
     rcases Bool.eq_false_or_eq_true (decide (((i3 : Nat) : Int) < ((v9 : Nat) : Int))) with h137 | h137
     ·skip
      have ph137 : ((i3 : Nat) : Int) < ((v9 : Nat) : Int) := of_decide_eq_true h137
      refine SL.bool (d := 64) (x := (decide (((i3 : Nat) : Int) < ((v9 : Nat) : Int)))) (y := true) h137 (by kernel_rfl) (SL.nil (SC.next (SC.seq (by kernel_rfl) (SC.yes (by kernel_rfl) (SC.skip (by kernel_rfl) (SC.next ?_))))))
      refine SC.seq (by kernel_rfl) (SC.block (i := 5) (by kernel_rfl) ?_)
      obtain ⟨G138, hG139⟩ : ∃ G : Nat → Prop, G = GK w135 ([rw' oa i3 oc 42 6 (os.flatMap foD.cells), rw' ta ts.length tc 34 6 (ts.flatMap ftD.cells), rw' ia is.length ic 86 2 (is.flatMap impD.cells), bx g20 #[.string v2, .slice ia is.length ic, .slice ta ts.length tc, .slice oa i3 oc] 26, rdR w5 g8 si3] ++ (ts.map typR ++ os.map objR)) [0, 1, 2, 4] := ⟨_, rfl⟩
      refine SC.tail G138 [([0, 1, 2], 3), ([], 4), ([], 5)] [6] 7 [6, 5, 4, 3, 2, 1, 0] (by kernel_rfl) (by kernel_rfl) (by kernel_rfl) (PanOk.block (PanOk.seq pn134)) ?_
      intro w140 hb141
      have M142 := M136.call hb141
      have acc143 : Ke G138 w135 w140 := Ke.below _ hb141
      refine ST.step (SU.run (d := 65) (v := .pointer (some ⟨g20, 3, none⟩)) (fun y hy => by kernel_rfl) (SU.load (d := 66) (t := 24) (b := .pointer (some ⟨g20, 3, none⟩)) (v := .slice oa i3 oc) (by kernel_rfl) (fun y hy => ((Mem.alone M136 hG139 3 rfl (by decide) (Ke.trans acc143 hy)).ldCell 0 rfl (j := 3) (v := .slice oa i3 oc) rfl Try.underlying24 rfl)) (SU.run (d := 67) (v := .pointer (some ⟨g8, 0, none⟩)) (fun y hy => by kernel_rfl) (SU.go ?_))))
      obtain ⟨v10, s10, hv10⟩ : ∃ x y, rObj8 si3 = (x, y) := ⟨_, _, rfl⟩
      refine SL.call (d := 68) (f := 39) (vs := [.pointer (some ⟨g8, 0, none⟩)]) (by kernel_rfl) (by kernel_rfl) (by have := oneObject_walk (HR.now M142 4 rfl); rw [hv10] at this; exact this) ?_
      rintro e w144 ⟨t10, rfl, ht10, hnew, hR, hk⟩
      refine ⟨_, rfl, ?_⟩
      have M146 := M142.rdrNew 4 rfl hR hk hnew.1 hnew.2
      have ke147 : Ke G138 _ _ := Ke.mono hk (fun i _ e => GK.own hG139 4 (by decide) rfl e)
      have acc148 := Ke.trans acc143 ke147
      refine SL.nil (ST.back ke147 (ST.step (SU.go (SL.buildSliceM (d := 69) (t := 24) (e := 42) (len := 1) (size := 6) (z := .agg #[.int .i64 0, .string ⟨#[]⟩, .int .i64 0, .int .i64 0, .int .u32 0, .slice none 0 0]) (ps := [(0, .agg #[.int .i64 t10.cls, .string t10.name, .int .i64 t10.base.mod, .int .i64 t10.base.idx, .int .u32 t10.value, .slice t10.params.a t10.params.l.length t10.params.c])]) (cs := #[.int .i64 t10.cls, .string t10.name, .int .i64 t10.base.mod, .int .i64 t10.base.idx, .int .u32 t10.value, .slice t10.params.a t10.params.l.length t10.params.c]) M146 (by kernel_rfl) Try.underlying24 (by kernel_rfl) rfl rfl (by kernel_rfl) ?_))))
      intro g149 w150 hb151 ⟨bg149, lg149⟩ M152
      have ke153 : Ke G138 _ _ := Ke.below _ hb151
      have ng149 : G138 g149 := GK.new hG139 (Nat.le_trans (Ke.size acc148) bg149)
      have acc154 := Ke.trans acc148 ke153
      refine SL.nil (ST.back ke153 (ST.step (SU.go (SL.appendM (d := 70) (ts := [24, 24]) (ty := 24) (vs := [.slice oa i3 oc, .slice (some ⟨g149, 0, none⟩) 1 1]) (k' := i3 + 1) (by kernel_rfl) (Mem.append (m := 1) (news := [.int .i64 t10.cls, .string t10.name, .int .i64 t10.base.mod, .int .i64 t10.base.idx, .int .u32 t10.value, .slice t10.params.a t10.params.l.length t10.params.c]) M152 2 rfl (ET.of Try.underlying24 (by kernel_rfl) (by decide) (by decide) : ET Try.prog 24 42 (.agg #[.int .i64 0, .string ⟨#[]⟩, .int .i64 0, .int .i64 0, .int .u32 0, .slice none 0 0]) 6 72) (rd_box M152 0 rfl (by kernel_rfl) rfl) rfl (by intro u hu; simp only [List.mem_cons, List.not_mem_nil, or_false] at hu; rcases hu with rfl | rfl | rfl | rfl | rfl | rfl <;> rfl) (by omega) (by omega) (by omega)) ?_))))
      intro a155 c156 w157 M158 hk159
      have ke160 : Ke G138 _ _ := Ke.mono hk159 (fun i _ e => GK.own hG139 0 (by decide) rfl e)
      have acc161 := Ke.trans acc154 ke160
      refine SL.nil (ST.back ke160 (ST.last (SU.run (d := 71) (v := .pointer (some ⟨g20, 3, none⟩)) (fun y hy => by kernel_rfl) (SU.go (SL.storeM (t := 24) (a := .pointer (some ⟨g20, 3, none⟩)) (v := .slice a155 (i3 + 1) c156) (by kernel_rfl) (M158.st1 5 rfl 3 rfl 24 rfl (by kernel_rfl) rfl) ?_)))))
      intro w162 M163 hk164 shk164
      refine SL.nil (ST.done (SQ.blockNormal (SC.next (SC.region [0, 1] (by kernel_rfl) (by kernel_rfl) (SL.int (d := 72) (q := .i64) (x := IntKind.wrap .i64 (((i3 : Nat) : Int) + (1 : Int))) (y := ((i3 + 1 : Nat) : Int)) (wr64 (by omega) (by omega) (by omega)) (by kernel_rfl) (SL.run (d := 63) (v := .int .i64 ((i3 + 1 : Nat) : Int)) (by kernel_rfl) ?_))))))
      refine SL.nil ?_
      have e1 : rObj8 si3 = (t10.d, s10) := by rw [hv10, ht10]
      have ex : (os.flatMap foD.cells) ++ [.int .i64 t10.cls, .string t10.name, .int .i64 t10.base.mod, .int .i64 t10.base.idx, .int .u32 t10.value, .slice t10.params.a t10.params.l.length t10.params.c] = (os ++ [t10]).flatMap foD.cells := by rw [List.flatMap_append]; rfl
      rw [ex] at M163
      have M165 : Mem ⟨w9, (· = g8)⟩ w162 (objR t10 :: ([bx g149 #[.int .i64 t10.cls, .string t10.name, .int .i64 t10.base.mod, .int .i64 t10.base.idx, .int .u32 t10.value, .slice t10.params.a t10.params.l.length t10.params.c] 42, rw' a155 (i3 + 1) c156 42 6 ((os ++ [t10]).flatMap foD.cells), rw' ta ts.length tc 34 6 (ts.flatMap ftD.cells), rw' ia is.length ic 86 2 (is.flatMap impD.cells), bx g20 #[.string v2, .slice ia is.length ic, .slice ta ts.length tc, .slice a155 (i3 + 1) c156] 26, rdR w5 g8 s10] ++ (ts.map typR ++ os.map objR))) := Mem.front M163 1 rfl
      have M166 := Mem.toEnd M165 (L' := ([bx g149 #[.int .i64 t10.cls, .string t10.name, .int .i64 t10.base.mod, .int .i64 t10.base.idx, .int .u32 t10.value, .slice t10.params.a t10.params.l.length t10.params.c] 42, rw' a155 (i3 + 1) c156 42 6 ((os ++ [t10]).flatMap foD.cells), rw' ta ts.length tc 34 6 (ts.flatMap ftD.cells), rw' ia is.length ic 86 2 (is.flatMap impD.cells), bx g20 #[.string v2, .slice ia is.length ic, .slice ta ts.length tc, .slice a155 (i3 + 1) c156] 26, rdR w5 g8 s10]) ++ (ts.map typR ++ (os ++ [t10]).map objR)) tail_obj
      have M167 := Mem.dropN M166 1 (L' := [rw' a155 (i3 + 1) c156 42 6 ((os ++ [t10]).flatMap foD.cells), rw' ta ts.length tc 34 6 (ts.flatMap ftD.cells), rw' ia is.length ic 86 2 (is.flatMap impD.cells), bx g20 #[.string v2, .slice ia is.length ic, .slice ta ts.length tc, .slice a155 (i3 + 1) c156] 26, rdR w5 g8 s10] ++ (ts.map typR ++ (os ++ [t10]).map objR)) rfl
      exact ag132 ⟨i3 + 1, a155, c156, os ++ [t10], s10⟩ (by kernel_rfl) ⟨M167, by rw [List.length_append, hlen]; rfl, by omega, by rw [List.map_append]; exact rLoop_snoc _ _ _ hloop e1⟩ (by omega)
     ·skip
      have ph137 : ¬ (((i3 : Nat) : Int) < ((v9 : Nat) : Int)) := of_decide_eq_false h137
      have hiv : i3 = v9 := by omega
      have hlo := hloop
      rw [hiv] at hlo
      have hsb9x := (HR.now M136 4 rfl).sb
      refine SL.bool (d := 64) (x := (decide (((i3 : Nat) : Int) < ((v9 : Nat) : Int)))) (y := false) h137 (by kernel_rfl) (SL.nil (SC.next (SC.seq (by kernel_rfl) (SC.no (by kernel_rfl) (SC.exit (i := 4) (by kernel_rfl) (SQ.seqExit (by nofun) ?_))))))
      refine ex133 (by nofun) (SQ.blockHere (SC.next (SC.seq (by kernel_rfl) (SC.seq (by kernel_rfl) ?_))))
      subst hlen
      have hsb9 := (HR.now M136 4 rfl).sb
      have hn2 : v2.size ≤ maxLen := by have h := sb_nm hsb0; rw [hv2] at h; exact max255 h.1
      have him : ∀ x ∈ is, impIn x := by have h := sb_loop sb_imp v4 (by have h := sb_byte hsb3; rw [hv4] at h; exact h.2); rw [hli] at h; exact h.1
      have htm : ∀ x ∈ ts, typOk8 x.d := fun x hx => by have h := sb_loop sb_typ v7 (by have h := sb_byte hsb5; rw [hv7] at h; exact h.2); rw [hlt] at h; exact h.1 _ (List.mem_map_of_mem hx)
      have hom : ∀ x ∈ os, objOk8 x.d := fun x hx => by have h := sb_loop sb_obj v9 (by have h := sb_num 900 (by decide) hsb7; rw [hv9] at h; exact h.2); rw [hlo] at h; exact h.1 _ (List.mem_map_of_mem hx)
      skip
      have M169 : Mem ⟨w9, (· = g8)⟩ w135 ([rw' oa os.length oc 42 6 (os.flatMap foD.cells), rw' ta ts.length tc 34 6 (ts.flatMap ftD.cells), rw' ia is.length ic 86 2 (is.flatMap impD.cells), bx g20 #[.string v2, .slice ia is.length ic, .slice ta ts.length tc, .slice oa os.length oc] 26, rdR w5 g8 si3] ++ (ts.map typR ++ os.map objR)) := M136
      have hRd : (⟨v2, ⟨ia, ic, is⟩, ⟨ta, tc, ts⟩, ⟨oa, oc, os⟩⟩ : Fc).Rd w135 := by
       refine ⟨hn2, ⟨by have := M169.rd 2 rfl; exact this, fun x hx => ?_⟩, ⟨by have := M169.rd 1 rfl; exact this, fun x hx => rd_ft (M169.own _ (List.mem_append_right _ (List.mem_append_left _ (List.mem_map_of_mem hx)))).1 (htm x hx)⟩, ⟨by have := M169.rd 0 rfl; exact this, fun x hx => rd_fo (M169.own _ (List.mem_append_right _ (List.mem_append_right _ (List.mem_map_of_mem hx)))).1 (hom x hx)⟩⟩
       obtain ⟨q1, q2, q3⟩ := him x hx
       exact ⟨by have q1 : (x.name.size : Int) ≤ 255 := q1; exact max255 (by omega), q2, q3⟩
      obtain ⟨ra, rc, rl, rb, M168, rhr, rhf, rhs⟩ := M169.rdOpen 4 rfl
      replace rhs : si3 = stOf rb rl := rhs
      refine SC.region [0, 1, 2, 3, 4, 5, 6, 7, 8, 9, 10, 11, 12, 13, 14, 15, 16] (by kernel_rfl) (by kernel_rfl) (SL.run (d := 73) (v := .pointer (some ⟨g8, 0, none⟩)) (by kernel_rfl) (SL.run (d := 74) (v := .pointer (some ⟨g8, 0, none⟩)) (by kernel_rfl) (SL.run (d := 75) (v := .pointer (some ⟨g8, 1, none⟩)) (by kernel_rfl) (SL.load (d := 76) (t := 4) (a := .pointer (some ⟨g8, 1, none⟩)) (v := .bool rb) (by kernel_rfl) (M168.ldCell 4 rfl (j := 1) (v := .bool rb) rfl Try.underlying4 rfl) (SL.run (d := 77) (v := .bool rb) (by kernel_rfl) ?_)))))
      cases rb
      ·skip
       refine SL.run (d := 78) (v := .pointer (some ⟨g8, 0, none⟩)) (by kernel_rfl) (SL.run (d := 79) (v := .pointer (some ⟨g8, 0, none⟩)) (by kernel_rfl) (SL.run (d := 80) (v := .pointer (some ⟨g8, 0, none⟩)) (by kernel_rfl) (SL.load (d := 81) (t := 46) (a := .pointer (some ⟨g8, 0, none⟩)) (v := .slice ra rl.length rc) (by kernel_rfl) (M168.ldCell 4 rfl (j := 0) (v := .slice ra rl.length rc) rfl Try.underlying46 rfl) (SL.builtin (d := 82) (b := .len) (ts := [46]) (ty := 3) (vs := [.slice ra rl.length rc]) (v := .int .i64 ((rl.length : Nat) : Int)) (by kernel_rfl) (fun k => run_len Try.underlying46 rfl k) ?_))))
       rcases Bool.eq_false_or_eq_true (decide ((0 : Int) < ((rl.length : Nat) : Int))) with h170 | h170
       ·skip
        have ph170 : (0 : Int) < ((rl.length : Nat) : Int) := of_decide_eq_true h170
        have hmore := ph170
        refine SL.bool (d := 83) (x := (decide ((0 : Int) < ((rl.length : Nat) : Int)))) (y := true) h170 (by kernel_rfl) (SL.pick (d := 84) (v := .bool true) (by kernel_rfl) (SL.run (d := 85) (v := .bool true) (by kernel_rfl) (SL.offs [13, 14, 15] (is := [16]) rfl (by kernel_rfl) (SL.pick (d := 89) (v := .bool true) (by kernel_rfl) (SL.nil (SC.next ?_))))))
        refine SC.keep (l' := [(2, .pointer (some ⟨g1, 0, none⟩)), (3, .int .u32 0), (4, .int .i64 0), (6, .pointer (some ⟨g20, 0, none⟩)), (7, .int .u32 v3), (89, .bool true)]) [2, 3, 4, 6, 7, 89] (by kernel_rfl) (SC.yes (by kernel_rfl) (SC.seq (by kernel_rfl) ?_))
        have M171 : Mem w w135 ([rw' oa os.length oc 42 6 (os.flatMap foD.cells), rw' ta ts.length tc 34 6 (ts.flatMap ftD.cells), rw' ia is.length ic 86 2 (is.flatMap impD.cells), bx g20 #[.string v2, .slice ia is.length ic, .slice ta ts.length tc, .slice oa os.length oc] 26, bx g8 #[.slice ra rl.length rc, .bool false] 79] ++ (ts.map typR ++ os.map objR) ++ [bx g1 #[.string ⟨#[]⟩, .slice none 0 0, .slice none 0 0, .slice none 0 0] 26]) := Mem.frame M11 M168 rfl
        have M172 : Mem w w135 ([bx g1 #[.string ⟨#[]⟩, .slice none 0 0, .slice none 0 0, .slice none 0 0] 26, rw' oa os.length oc 42 6 (os.flatMap foD.cells), rw' ta ts.length tc 34 6 (ts.flatMap ftD.cells), rw' ia is.length ic 86 2 (is.flatMap impD.cells), bx g20 #[.string v2, .slice ia is.length ic, .slice ta ts.length tc, .slice oa os.length oc] 26, bx g8 #[.slice ra rl.length rc, .bool false] 79] ++ (ts.map typR ++ os.map objR)) := Mem.permute M171 (List.perm_append_comm (l₂ := [bx g1 #[.string ⟨#[]⟩, .slice none 0 0, .slice none 0 0, .slice none 0 0] 26]))
        refine SC.region [0, 1, 2, 3] (by kernel_rfl) (by kernel_rfl) (SL.build (d := 90) (t := 26) (ps := []) (cs := #[.string ⟨#[]⟩, .slice none 0 0, .slice none 0 0, .slice none 0 0]) (by kernel_rfl) (by kernel_rfl) (SL.storeM (t := 26) (a := .pointer (some ⟨g1, 0, none⟩)) (v := .agg #[.string ⟨#[]⟩, .slice none 0 0, .slice none 0 0, .slice none 0 0]) (by kernel_rfl) (M172.stBox 0 rfl rfl (by kernel_rfl) rfl) ?_))
        intro w173 M174 hk175 shk175
        refine SL.run (d := 3) (v := .int .u32 0) (by kernel_rfl) (SL.run (d := 4) (v := .int .i64 4) (by kernel_rfl) (SL.nil (SC.next (SC.ret (by kernel_rfl) (SQ.seqExit (by nofun) ?_)))))
        refine SQ.retE (P := Try.prog) (v := .tuple #[.agg #[.string ⟨#[]⟩, .slice none 0 0, .slice none 0 0, .slice none 0 0], .int .u32 0, .int .i64 4]) (.inr rfl) (fun a ha => ?_) ?_
        ·exact res_c_t_t (by kernel_rfl) (ha.getD (t := 2) (v := .pointer (some ⟨g1, 0, none⟩)) (by kernel_rfl)) (ha.getD (t := 3) (v := .int .u32 0) (by kernel_rfl)) (ha.getD (t := 4) (v := .int .i64 4) (by kernel_rfl)) (M174.ldBox 0 rfl Try.underlying26 rfl (by kernel_rfl))
        have e9 : rRest8 s3 = ((is, ts.map FT.d, os.map FO.d), si3) := by unfold rRest8 rObjs8 rMany; rw [hv4]; dsimp only; rw [Int.toNat_natCast, hli]; dsimp only; rw [hv7]; dsimp only; rw [Int.toNat_natCast, hlt]; dsimp only; rw [hv9]; dsimp only; rw [Int.toNat_natCast, hlo]
        have eF := ofF_steps hsm hv2 hv3 hkey e9
        refine ⟨.inl ⟨?_, rfl⟩, M174.bel⟩
        rw [eF, if_neg]
        rintro ⟨q1, q2⟩
        rw [rhs] at q1
        have q1 : rl = [] := Option.some.inj q1
        rw [q1] at hmore
        exact absurd hmore (by simp)
       ·skip
        have ph170 : ¬ ((0 : Int) < ((rl.length : Nat) : Int)) := of_decide_eq_false h170
        have hmore := ph170
        refine SL.bool (d := 83) (x := (decide ((0 : Int) < ((rl.length : Nat) : Int)))) (y := false) h170 (by kernel_rfl) (SL.pick (d := 84) (v := .bool false) (by kernel_rfl) (SL.run (d := 85) (v := .bool false) (by kernel_rfl) (SL.load (d := 86) (t := 26) (a := .pointer (some ⟨g20, 0, none⟩)) (v := .agg #[.string v2, .slice ia is.length ic, .slice ta ts.length tc, .slice oa os.length oc]) (by kernel_rfl) (M168.ldBox 3 rfl Try.underlying26 rfl (by kernel_rfl)) ?_)))
        obtain ⟨my, hmy⟩ : ∃ b, mayFace (⟨v2, ⟨ia, ic, is⟩, ⟨ta, tc, ts⟩, ⟨oa, oc, os⟩⟩ : Fc).d = b := ⟨_, rfl⟩
        refine SL.call (d := 87) (f := 10) (vs := [.agg #[.string v2, .slice ia is.length ic, .slice ta ts.length tc, .slice oa os.length oc]]) (by kernel_rfl) (by kernel_rfl) (by have := may_walk (⟨v2, ⟨ia, ic, is⟩, ⟨ta, tc, ts⟩, ⟨oa, oc, os⟩⟩ : Fc) w135 hRd; rw [hmy] at this; exact this) ?_
        rintro e w176 ⟨rfl, hb177⟩
        refine ⟨_, rfl, ?_⟩
        have M178 := M168.call hb177
        replace hRd := hRd.bel hb177
        cases my
        ·skip
         refine SL.run (d := 88) (v := .bool true) (by kernel_rfl) (SL.pick (d := 89) (v := .bool true) (by kernel_rfl) (SL.nil (SC.next (SC.keep (l' := [(2, .pointer (some ⟨g1, 0, none⟩)), (3, .int .u32 0), (4, .int .i64 0), (6, .pointer (some ⟨g20, 0, none⟩)), (7, .int .u32 v3), (89, .bool true)]) [2, 3, 4, 6, 7, 89] (by kernel_rfl) (SC.yes (by kernel_rfl) (SC.seq (by kernel_rfl) ?_))))))
         have M179 : Mem w w176 ([rw' oa os.length oc 42 6 (os.flatMap foD.cells), rw' ta ts.length tc 34 6 (ts.flatMap ftD.cells), rw' ia is.length ic 86 2 (is.flatMap impD.cells), bx g20 #[.string v2, .slice ia is.length ic, .slice ta ts.length tc, .slice oa os.length oc] 26, bx g8 #[.slice ra rl.length rc, .bool false] 79] ++ (ts.map typR ++ os.map objR) ++ [bx g1 #[.string ⟨#[]⟩, .slice none 0 0, .slice none 0 0, .slice none 0 0] 26]) := Mem.frame M11 M178 rfl
         have M180 : Mem w w176 ([bx g1 #[.string ⟨#[]⟩, .slice none 0 0, .slice none 0 0, .slice none 0 0] 26, rw' oa os.length oc 42 6 (os.flatMap foD.cells), rw' ta ts.length tc 34 6 (ts.flatMap ftD.cells), rw' ia is.length ic 86 2 (is.flatMap impD.cells), bx g20 #[.string v2, .slice ia is.length ic, .slice ta ts.length tc, .slice oa os.length oc] 26, bx g8 #[.slice ra rl.length rc, .bool false] 79] ++ (ts.map typR ++ os.map objR)) := Mem.permute M179 (List.perm_append_comm (l₂ := [bx g1 #[.string ⟨#[]⟩, .slice none 0 0, .slice none 0 0, .slice none 0 0] 26]))
         refine SC.region [0, 1, 2, 3] (by kernel_rfl) (by kernel_rfl) (SL.build (d := 90) (t := 26) (ps := []) (cs := #[.string ⟨#[]⟩, .slice none 0 0, .slice none 0 0, .slice none 0 0]) (by kernel_rfl) (by kernel_rfl) (SL.storeM (t := 26) (a := .pointer (some ⟨g1, 0, none⟩)) (v := .agg #[.string ⟨#[]⟩, .slice none 0 0, .slice none 0 0, .slice none 0 0]) (by kernel_rfl) (M180.stBox 0 rfl rfl (by kernel_rfl) rfl) ?_))
         intro w181 M182 hk183 shk183
         refine SL.run (d := 3) (v := .int .u32 0) (by kernel_rfl) (SL.run (d := 4) (v := .int .i64 4) (by kernel_rfl) (SL.nil (SC.next (SC.ret (by kernel_rfl) (SQ.seqExit (by nofun) ?_)))))
         refine SQ.retE (P := Try.prog) (v := .tuple #[.agg #[.string ⟨#[]⟩, .slice none 0 0, .slice none 0 0, .slice none 0 0], .int .u32 0, .int .i64 4]) (.inr rfl) (fun a ha => ?_) ?_
         ·exact res_c_t_t (by kernel_rfl) (ha.getD (t := 2) (v := .pointer (some ⟨g1, 0, none⟩)) (by kernel_rfl)) (ha.getD (t := 3) (v := .int .u32 0) (by kernel_rfl)) (ha.getD (t := 4) (v := .int .i64 4) (by kernel_rfl)) (M182.ldBox 0 rfl Try.underlying26 rfl (by kernel_rfl))
         have e9 : rRest8 s3 = ((is, ts.map FT.d, os.map FO.d), si3) := by unfold rRest8 rObjs8 rMany; rw [hv4]; dsimp only; rw [Int.toNat_natCast, hli]; dsimp only; rw [hv7]; dsimp only; rw [Int.toNat_natCast, hlt]; dsimp only; rw [hv9]; dsimp only; rw [Int.toNat_natCast, hlo]
         have eF := ofF_steps hsm hv2 hv3 hkey e9
         refine ⟨.inl ⟨?_, rfl⟩, M182.bel⟩
         rw [eF, if_neg]
         rintro ⟨q1, q2⟩
         rw [rhs] at q1
         have q2 : mayFace (⟨v2, ⟨ia, ic, is⟩, ⟨ta, tc, ts⟩, ⟨oa, oc, os⟩⟩ : Fc).d = true := q2
         rw [hmy] at q2
         cases q2
        ·skip
         refine SL.run (d := 88) (v := .bool false) (by kernel_rfl) (SL.pick (d := 89) (v := .bool false) (by kernel_rfl) (SL.nil (SC.next (SC.keep (l' := [(2, .pointer (some ⟨g1, 0, none⟩)), (3, .int .u32 0), (4, .int .i64 0), (6, .pointer (some ⟨g20, 0, none⟩)), (7, .int .u32 v3), (89, .bool false)]) [2, 3, 4, 6, 7, 89] (by kernel_rfl) (SC.no (by kernel_rfl) (SC.skip (by kernel_rfl) ?_))))))
         refine SC.next (SC.seq (by kernel_rfl) ?_)
         have M184 : Mem w w176 ([rw' oa os.length oc 42 6 (os.flatMap foD.cells), rw' ta ts.length tc 34 6 (ts.flatMap ftD.cells), rw' ia is.length ic 86 2 (is.flatMap impD.cells), bx g20 #[.string v2, .slice ia is.length ic, .slice ta ts.length tc, .slice oa os.length oc] 26, bx g8 #[.slice ra rl.length rc, .bool false] 79] ++ (ts.map typR ++ os.map objR) ++ [bx g1 #[.string ⟨#[]⟩, .slice none 0 0, .slice none 0 0, .slice none 0 0] 26]) := Mem.frame M11 M178 rfl
         have M185 : Mem w w176 ([bx g1 #[.string ⟨#[]⟩, .slice none 0 0, .slice none 0 0, .slice none 0 0] 26, rw' oa os.length oc 42 6 (os.flatMap foD.cells), rw' ta ts.length tc 34 6 (ts.flatMap ftD.cells), rw' ia is.length ic 86 2 (is.flatMap impD.cells), bx g20 #[.string v2, .slice ia is.length ic, .slice ta ts.length tc, .slice oa os.length oc] 26, bx g8 #[.slice ra rl.length rc, .bool false] 79] ++ (ts.map typR ++ os.map objR)) := Mem.permute M184 (List.perm_append_comm (l₂ := [bx g1 #[.string ⟨#[]⟩, .slice none 0 0, .slice none 0 0, .slice none 0 0] 26]))
         refine SC.region [0, 1, 2, 3, 4] (by kernel_rfl) (by kernel_rfl) (SL.load (d := 91) (t := 26) (a := .pointer (some ⟨g20, 0, none⟩)) (v := .agg #[.string v2, .slice ia is.length ic, .slice ta ts.length tc, .slice oa os.length oc]) (by kernel_rfl) (M185.ldBox 4 rfl Try.underlying26 rfl (by kernel_rfl)) (SL.run (d := 92) (v := .int .u32 v3) (by kernel_rfl) (SL.storeM (t := 26) (a := .pointer (some ⟨g1, 0, none⟩)) (v := .agg #[.string v2, .slice ia is.length ic, .slice ta ts.length tc, .slice oa os.length oc]) (by kernel_rfl) (M185.stBox 0 rfl rfl (by kernel_rfl) rfl) ?_)))
         intro w186 M187 hk188 shk188
         refine SL.run (d := 3) (v := .int .u32 v3) (by kernel_rfl) (SL.run (d := 4) (v := .int .i64 0) (by kernel_rfl) (SL.nil (SC.next (SC.ret (by kernel_rfl) ?_))))
         refine SQ.retE (P := Try.prog) (v := .tuple #[.agg #[.string v2, .slice ia is.length ic, .slice ta ts.length tc, .slice oa os.length oc], .int .u32 v3, .int .i64 0]) (.inr rfl) (fun a ha => ?_) ?_
         ·exact res_c_t_t (by kernel_rfl) (ha.getD (t := 2) (v := .pointer (some ⟨g1, 0, none⟩)) (by kernel_rfl)) (ha.getD (t := 3) (v := .int .u32 v3) (by kernel_rfl)) (ha.getD (t := 4) (v := .int .i64 0) (by kernel_rfl)) (M187.ldBox 0 rfl Try.underlying26 rfl (by kernel_rfl))
         have e9 : rRest8 s3 = ((is, ts.map FT.d, os.map FO.d), si3) := by unfold rRest8 rObjs8 rMany; rw [hv4]; dsimp only; rw [Int.toNat_natCast, hli]; dsimp only; rw [hv7]; dsimp only; rw [Int.toNat_natCast, hlt]; dsimp only; rw [hv9]; dsimp only; rw [Int.toNat_natCast, hlo]
         have eF := ofF_steps hsm hv2 hv3 hkey e9
         have q0 : rl = [] := List.length_eq_zero_iff.1 (by omega)
         refine ⟨.inr ⟨(⟨v2, ⟨ia, ic, is⟩, ⟨ta, tc, ts⟩, ⟨oa, oc, os⟩⟩ : Fc), (v3 : Int), ?_, rfl, ?_⟩, M187.bel⟩
         ·rw [eF, if_pos ⟨by rw [rhs, q0]; rfl, hmy⟩]; rfl
         ·skip
          have M189 : Mem w w186 ([bx g1 #[.string v2, .slice ia is.length ic, .slice ta ts.length tc, .slice oa os.length oc] 26, rw' oa os.length oc 42 6 (os.flatMap foD.cells), rw' ta ts.length tc 34 6 (ts.flatMap ftD.cells), rw' ia is.length ic 86 2 (is.flatMap impD.cells), bx g20 #[.string v2, .slice ia is.length ic, .slice ta ts.length tc, .slice oa os.length oc] 26, bx g8 #[.slice ra rl.length rc, .bool false] 79] ++ (ts.map typR ++ os.map objR)) := M187
          have hRdE : (⟨v2, ⟨ia, ic, is⟩, ⟨ta, tc, ts⟩, ⟨oa, oc, os⟩⟩ : Fc).Rd w186 := by
           refine ⟨hn2, ⟨by have := M189.rd 3 rfl; exact this, fun x hx => ?_⟩, ⟨by have := M189.rd 2 rfl; exact this, fun x hx => rd_ft (M189.own _ (List.mem_append_right _ (List.mem_append_left _ (List.mem_map_of_mem hx)))).1 (htm x hx)⟩, ⟨by have := M189.rd 1 rfl; exact this, fun x hx => rd_fo (M189.own _ (List.mem_append_right _ (List.mem_append_right _ (List.mem_map_of_mem hx)))).1 (hom x hx)⟩⟩
           obtain ⟨q1, q2, q3⟩ := him x hx
           exact ⟨by have q1 : (x.name.size : Int) ≤ 255 := q1; exact max255 (by omega), q2, q3⟩
          exact hRdE
      ·skip
       refine SL.offs [5, 6, 7, 8, 9, 10] (is := [11, 12, 13, 14, 15, 16]) rfl (by kernel_rfl) (SL.pick (d := 84) (v := .bool true) (by kernel_rfl) (SL.run (d := 85) (v := .bool true) (by kernel_rfl) (SL.offs [13, 14, 15] (is := [16]) rfl (by kernel_rfl) (SL.pick (d := 89) (v := .bool true) (by kernel_rfl) (SL.nil (SC.next ?_))))))
       refine SC.yes (by kernel_rfl) (SC.seq (by kernel_rfl) ?_)
       have M190 : Mem w w135 ([rw' oa os.length oc 42 6 (os.flatMap foD.cells), rw' ta ts.length tc 34 6 (ts.flatMap ftD.cells), rw' ia is.length ic 86 2 (is.flatMap impD.cells), bx g20 #[.string v2, .slice ia is.length ic, .slice ta ts.length tc, .slice oa os.length oc] 26, bx g8 #[.slice ra rl.length rc, .bool true] 79] ++ (ts.map typR ++ os.map objR) ++ [bx g1 #[.string ⟨#[]⟩, .slice none 0 0, .slice none 0 0, .slice none 0 0] 26]) := Mem.frame M11 M168 rfl
       have M191 : Mem w w135 ([bx g1 #[.string ⟨#[]⟩, .slice none 0 0, .slice none 0 0, .slice none 0 0] 26, rw' oa os.length oc 42 6 (os.flatMap foD.cells), rw' ta ts.length tc 34 6 (ts.flatMap ftD.cells), rw' ia is.length ic 86 2 (is.flatMap impD.cells), bx g20 #[.string v2, .slice ia is.length ic, .slice ta ts.length tc, .slice oa os.length oc] 26, bx g8 #[.slice ra rl.length rc, .bool true] 79] ++ (ts.map typR ++ os.map objR)) := Mem.permute M190 (List.perm_append_comm (l₂ := [bx g1 #[.string ⟨#[]⟩, .slice none 0 0, .slice none 0 0, .slice none 0 0] 26]))
       refine SC.region [0, 1, 2, 3] (by kernel_rfl) (by kernel_rfl) (SL.build (d := 90) (t := 26) (ps := []) (cs := #[.string ⟨#[]⟩, .slice none 0 0, .slice none 0 0, .slice none 0 0]) (by kernel_rfl) (by kernel_rfl) (SL.storeM (t := 26) (a := .pointer (some ⟨g1, 0, none⟩)) (v := .agg #[.string ⟨#[]⟩, .slice none 0 0, .slice none 0 0, .slice none 0 0]) (by kernel_rfl) (M191.stBox 0 rfl rfl (by kernel_rfl) rfl) ?_))
       intro w192 M193 hk194 shk194
       refine SL.run (d := 3) (v := .int .u32 0) (by kernel_rfl) (SL.run (d := 4) (v := .int .i64 4) (by kernel_rfl) (SL.nil (SC.next (SC.ret (by kernel_rfl) (SQ.seqExit (by nofun) ?_)))))
       refine SQ.retE (P := Try.prog) (v := .tuple #[.agg #[.string ⟨#[]⟩, .slice none 0 0, .slice none 0 0, .slice none 0 0], .int .u32 0, .int .i64 4]) (.inr rfl) (fun a ha => ?_) ?_
       ·exact res_c_t_t (by kernel_rfl) (ha.getD (t := 2) (v := .pointer (some ⟨g1, 0, none⟩)) (by kernel_rfl)) (ha.getD (t := 3) (v := .int .u32 0) (by kernel_rfl)) (ha.getD (t := 4) (v := .int .i64 4) (by kernel_rfl)) (M193.ldBox 0 rfl Try.underlying26 rfl (by kernel_rfl))
       have e9 : rRest8 s3 = ((is, ts.map FT.d, os.map FO.d), si3) := by unfold rRest8 rObjs8 rMany; rw [hv4]; dsimp only; rw [Int.toNat_natCast, hli]; dsimp only; rw [hv7]; dsimp only; rw [Int.toNat_natCast, hlt]; dsimp only; rw [hv9]; dsimp only; rw [Int.toNat_natCast, hlo]
       have eF := ofF_steps hsm hv2 hv3 hkey e9
       refine ⟨.inl ⟨?_, rfl⟩, M193.bel⟩
       rw [eF, if_neg]
       rintro ⟨q1, q2⟩
       rw [rhs] at q1
       cases q1
  ·skip
   have ph38 : ¬ (kk = ((v3 : Nat) : Int)) := of_decide_eq_false h38
   have hkey : ∀ r, s3 = some r → ¬ Key.of r = (v3 : Int) := fun r hr' => by rw [rhs] at hr'; cases rb with | true => cases hr' | false => (obtain rfl := Option.some.inj hr'; rw [hkk]; exact ph38)
   refine SL.bool (d := 30) (x := (kk != ((v3 : Nat) : Int))) (y := true) ((int_bne _ _).trans (by rw [h38]; rfl)) (by kernel_rfl) (SL.nil (SC.next (SC.yes (by kernel_rfl) (SC.seq (by kernel_rfl) ?_))))
   have M195 : Mem w w35 ([bx g31 #[.slice ra rl.length rc] 46, bx g20 #[.string v2, .slice none 0 0, .slice none 0 0, .slice none 0 0] 26, bx g8 #[.slice ra rl.length rc, .bool rb] 79, bx g1 #[.string ⟨#[]⟩, .slice none 0 0, .slice none 0 0, .slice none 0 0] 26]) := Mem.frame M11 M37 rfl
   refine SC.region [0, 1, 2, 3] (by kernel_rfl) (by kernel_rfl) (SL.build (d := 31) (t := 26) (ps := []) (cs := #[.string ⟨#[]⟩, .slice none 0 0, .slice none 0 0, .slice none 0 0]) (by kernel_rfl) (by kernel_rfl) (SL.storeM (t := 26) (a := .pointer (some ⟨g1, 0, none⟩)) (v := .agg #[.string ⟨#[]⟩, .slice none 0 0, .slice none 0 0, .slice none 0 0]) (by kernel_rfl) (M195.stBox 3 rfl rfl (by kernel_rfl) rfl) ?_))
   intro w196 M197 hk198 shk198
   refine SL.run (d := 3) (v := .int .u32 0) (by kernel_rfl) (SL.run (d := 4) (v := .int .i64 4) (by kernel_rfl) (SL.nil (SC.next (SC.ret (by kernel_rfl) (SQ.seqExit (by nofun) ?_)))))
   refine SQ.retE (P := Try.prog) (v := .tuple #[.agg #[.string ⟨#[]⟩, .slice none 0 0, .slice none 0 0, .slice none 0 0], .int .u32 0, .int .i64 4]) (.inr rfl) (fun a ha => ?_) ?_
   ·exact res_c_t_t (by kernel_rfl) (ha.getD (t := 2) (v := .pointer (some ⟨g1, 0, none⟩)) (by kernel_rfl)) (ha.getD (t := 3) (v := .int .u32 0) (by kernel_rfl)) (ha.getD (t := 4) (v := .int .i64 4) (by kernel_rfl)) (M197.ldBox 3 rfl Try.underlying26 rfl (by kernel_rfl))
   exact ⟨.inl ⟨ofF_key hsm hv2 hv3 hkey, rfl⟩, M197.bel⟩
 ·skip
  have ph16 : ¬ ((strOf l2) = (⟨#[83, 49]⟩ : ByteArray)) := of_decide_eq_false h16
  refine SL.bool (d := 16) (x := (!((strOf l2).toList == (⟨#[83, 49]⟩ : ByteArray).toList))) (y := true) ((str_bne _ _).trans (by rw [h16]; rfl)) (by kernel_rfl) (SL.nil (SC.next (SC.yes (by kernel_rfl) (SC.seq (by kernel_rfl) ?_))))
  have M199 : Mem w w13 ([rdR w5 g8 s0, bx g1 #[.string ⟨#[]⟩, .slice none 0 0, .slice none 0 0, .slice none 0 0] 26]) := Mem.frame M11 M15 rfl
  refine SC.region [0, 1, 2, 3] (by kernel_rfl) (by kernel_rfl) (SL.build (d := 17) (t := 26) (ps := []) (cs := #[.string ⟨#[]⟩, .slice none 0 0, .slice none 0 0, .slice none 0 0]) (by kernel_rfl) (by kernel_rfl) (SL.storeM (t := 26) (a := .pointer (some ⟨g1, 0, none⟩)) (v := .agg #[.string ⟨#[]⟩, .slice none 0 0, .slice none 0 0, .slice none 0 0]) (by kernel_rfl) (M199.stBox 1 rfl rfl (by kernel_rfl) rfl) ?_))
  intro w200 M201 hk202 shk202
  refine SL.run (d := 3) (v := .int .u32 0) (by kernel_rfl) (SL.run (d := 4) (v := .int .i64 4) (by kernel_rfl) (SL.nil (SC.next (SC.ret (by kernel_rfl) (SQ.seqExit (by nofun) ?_)))))
  refine SQ.retE (P := Try.prog) (v := .tuple #[.agg #[.string ⟨#[]⟩, .slice none 0 0, .slice none 0 0, .slice none 0 0], .int .u32 0, .int .i64 4]) (.inr rfl) (fun a ha => ?_) ?_
  ·exact res_c_t_t (by kernel_rfl) (ha.getD (t := 2) (v := .pointer (some ⟨g1, 0, none⟩)) (by kernel_rfl)) (ha.getD (t := 3) (v := .int .u32 0) (by kernel_rfl)) (ha.getD (t := 4) (v := .int .i64 4) (by kernel_rfl)) (M201.ldBox 1 rfl Try.underlying26 rfl (by kernel_rfl))
  exact ⟨.inl ⟨ofF_magic hs2 (fun e => ph16 (by rw [e]; rfl)), rfl⟩, M201.bel⟩
end Go.Proofs.Ytfnibpkojhgflaa
