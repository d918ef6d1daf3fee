/- Walks: the reader of the program's symfile: oneType, oneObject. Printed by bin/gen_symone.py. -/
import Derived.Test.YtfnibpkojhgflaaSymRd
import Derived.Test.YtfnibpkojhgflaaFrTail
namespace Go.Proofs.Ytfnibpkojhgflaa
set_option linter.unusedVariables false
set_option linter.unusedSimpArgs false
open Go.RowKit
variable {w0 we : World} {g : Nat} {s : St}
def typR (t : FT) : Res := rw' t.fields.a t.fields.l.length t.fields.c 37 4 (t.fields.l.flatMap Fld.cells)
def objR (o : FO) : Res := rw' o.params.a o.params.l.length o.params.c 97 3 (o.params.l.flatMap Prm.cells)
/-- new, and there. -/
def NewR (w w' : World) (r : Res) : Prop := r.holds w' ∧ ∀ b, r.foot b → w.heap.size ≤ b ∧ b < w'.heap.size
theorem newNil (w w' : World) (e : TypeId) (size : Nat) : NewR w w' (rw' none 0 0 e size []) := ⟨⟨by simp, .inl ⟨rfl, rfl⟩⟩, fun b hb => by cases hb⟩
theorem newAt {G : Nat → Prop} {w w' : World} {L : List Res} (M : Mem ⟨w, (· = g)⟩ w' L) (i j : Nat) {r q : Res} (hi : L[i]? = some r) (hj : L[j]? = some q) (hij : i ≠ j) (hq : q.foot g) : NewR w w' r :=
 ⟨M.get i hi, fun b hb => ⟨(M.lo' i hi hb).resolve_right (fun e => by have e : b = g := e; subst e; exact M.ne hij hi hj hb hq), M.lt i hi hb⟩⟩

set_option maxHeartbeats 1000000 in
theorem oneType_walk (HR : Rdr w0 we g s) :
  Calls Try.prog 37 #[.pointer (some ⟨g, 0, none⟩)] we fun e w' => ∃ t : FT, e = .returned (.agg t.cells.toArray) ∧ t.d = (rTyp s).1 ∧ NewR we w' (typR t) ∧ Rdr w0 w' g (rTyp s).2 ∧ Ke (· = g) we w' := by
 have M0 := HR.mem
 refine SC.enter (vs := [.pointer (some ⟨g, 0, none⟩)]) (n := 46) (l := [(0, .pointer (some ⟨g, 0, none⟩))]) Try.func37 (by kernel_rfl) (by kernel_rfl) (by kernel_rfl) (by kernel_rfl) (SC.seq (by kernel_rfl) (SC.region [0] (by kernel_rfl) (by kernel_rfl) (SL.allocM (d := 2) (t := 34) (z := .agg #[.int .i64 0, .int .i64 0, .int .i64 0, .int .i64 0, .int .i64 0, .slice none 0 0]) (cs := #[.int .i64 0, .int .i64 0, .int .i64 0, .int .i64 0, .int .i64 0, .slice none 0 0]) M0 (by kernel_rfl) (by kernel_rfl) rfl ?_)))
 intro g1 w2 hb3 ⟨bg1, lg1⟩ M4
 refine SL.nil (SC.next (SC.seq (by kernel_rfl) (SC.region [0, 1, 2, 3] (by kernel_rfl) (by kernel_rfl) (SL.run (d := 4) (v := .pointer (some ⟨g, 0, none⟩)) (by kernel_rfl) ?_))))
 obtain ⟨v1, s1, hv1, bv1⟩ := byte_nat (HR.now M4 1 rfl)
 refine SL.call (d := 5) (f := 36) (vs := [.pointer (some ⟨g, 0, none⟩)]) (by kernel_rfl) (by kernel_rfl) (by have := byte_walk (HR.now M4 1 rfl); rw [hv1] at this; exact this) ?_
 rintro e w5 ⟨rfl, hR, hk⟩
 refine ⟨_, rfl, ?_⟩
 have M7 := M4.rdr 1 rfl hR hk
 refine SL.run (d := 6) (v := .pointer (some ⟨g1, 0, none⟩)) (by kernel_rfl) (SL.storeM (t := 31) (a := .pointer (some ⟨g1, 0, none⟩)) (v := .int .i64 v1) (by kernel_rfl) (M7.st1 0 rfl 0 rfl 31 rfl (by kernel_rfl) rfl) ?_)
 intro w8 M9 hk10 shk10
 refine SL.nil (SC.next (SC.seq (by kernel_rfl) (SC.seq (by kernel_rfl) (SC.region [0, 1] (by kernel_rfl) (by kernel_rfl) (SL.run (d := 7) (v := .pointer (some ⟨g1, 0, none⟩)) (by kernel_rfl) (SL.load (d := 8) (t := 31) (a := .pointer (some ⟨g1, 0, none⟩)) (v := .int .i64 v1) (by kernel_rfl) (M9.ldCell 0 rfl (j := 0) (v := .int .i64 v1) rfl Try.underlying31 rfl) ?_))))))
 refine SL.nil (SC.next (SC.block (i := 0) (by kernel_rfl) (SC.seq (by kernel_rfl) (SC.region [0, 1] (by kernel_rfl) (by kernel_rfl) ?_))))
 rcases Bool.eq_false_or_eq_true (decide (((v1 : Nat) : Int) = (2 : Int))) with h11 | h11
 ·skip
  have ph11 : ((v1 : Nat) : Int) = (2 : Int) := of_decide_eq_true h11
  have pf2 := ph11
  refine SL.bool (d := 10) (x := (((v1 : Nat) : Int) == (2 : Int))) (y := true) ((int_beq _ _).trans h11) (by kernel_rfl) (SL.run (d := 9) (v := .bool true) (by kernel_rfl) (SL.nil (SC.next (SC.yes (by kernel_rfl) (SC.seq (by kernel_rfl) (SC.region [0, 1, 2, 3] (by kernel_rfl) (by kernel_rfl) ?_))))))
  refine SL.run (d := 11) (v := .pointer (some ⟨g, 0, none⟩)) (by kernel_rfl) ?_
  obtain ⟨v2, s2, hv2, bv2⟩ := num_nat (HR.now M9 1 rfl) 262144 (by decide)
  refine SL.call (d := 12) (f := 38) (vs := [.pointer (some ⟨g, 0, none⟩), .int .i64 262144]) (by kernel_rfl) (by kernel_rfl) (by have := number_walk (HR.now M9 1 rfl) 262144 (by decide) (by decide); rw [hv2] at this; exact this) ?_
  rintro e w12 ⟨rfl, hR, hk⟩
  refine ⟨_, rfl, ?_⟩
  have M14 := M9.rdr 1 rfl hR hk
  refine SL.run (d := 13) (v := .pointer (some ⟨g1, 2, none⟩)) (by kernel_rfl) (SL.storeM (t := 3) (a := .pointer (some ⟨g1, 2, none⟩)) (v := .int .i64 v2) (by kernel_rfl) (M14.st1 0 rfl 2 rfl 3 rfl (by kernel_rfl) rfl) ?_)
  intro w15 M16 hk17 shk17
  refine SL.nil (SC.next (SC.seq (by kernel_rfl) (SC.seq (by kernel_rfl) (SC.region [0, 1, 2] (by kernel_rfl) (by kernel_rfl) (SL.run (d := 14) (v := .pointer (some ⟨g, 0, none⟩)) (by kernel_rfl) ?_)))))
  obtain ⟨v3, s3, hv3, bv3⟩ := byte_nat (HR.now M16 1 rfl)
  refine SL.call (d := 15) (f := 36) (vs := [.pointer (some ⟨g, 0, none⟩)]) (by kernel_rfl) (by kernel_rfl) (by have := byte_walk (HR.now M16 1 rfl); rw [hv3] at this; exact this) ?_
  rintro e w18 ⟨rfl, hR, hk⟩
  refine ⟨_, rfl, ?_⟩
  have M20 := M16.rdr 1 rfl hR hk
  refine SL.run (d := 16) (v := .int .i64 0) (by kernel_rfl) (SL.nil (SC.next (SC.block (i := 1) (by kernel_rfl) ?_)))
  have M21 : Mem ⟨we, (· = g)⟩ w18 ([rw' none 0 0 37 4 [], bx g1 #[.int .i64 v1, .int .i64 0, .int .i64 v2, .int .i64 0, .int .i64 0, .slice none 0 0] 34, rdR w0 g s3]) := Mem.addNil M20
  refine SC.loopA (X := Nat × Option Addr × Nat × List Fld × St) (fun x => [(0, .pointer (some ⟨g, 0, none⟩)), (2, .pointer (some ⟨g1, 0, none⟩)), (15, .int .i64 v3), (16, .int .i64 ((x.1 : Nat) : Int))]) (fun x wr => Mem ⟨we, (· = g)⟩ wr ([rw' x.2.1 x.1 x.2.2.1 37 4 (x.2.2.2.1.flatMap Fld.cells), bx g1 #[.int .i64 v1, .int .i64 0, .int .i64 v2, .int .i64 0, .int .i64 0, .slice x.2.1 x.1 x.2.2.1] 34, rdR w0 g x.2.2.2.2]) ∧ (x.2.2.2.1.length = x.1 ∧ x.1 ≤ v3 ∧ rLoop rFld x.1 s3 = (x.2.2.2.1, x.2.2.2.2))) (fun x => v3 + 1 - x.1) (PanOk.block (PanOk.seq (PanOk.block (PanOk.seq PanOk.body)))) (by kernel_rfl) ⟨0, none, 0, [], s3⟩ (by kernel_rfl) ⟨M21, rfl, Nat.zero_le _, rfl⟩ ?_
  rintro ⟨i, a, c, xs, si⟩ w27 ⟨M28, hI22⟩ Q23 ag24 ex25 pn26
  replace M28 : Mem ⟨we, (· = g)⟩ w27 ([rw' a i c 37 4 (xs.flatMap Fld.cells), bx g1 #[.int .i64 v1, .int .i64 0, .int .i64 v2, .int .i64 0, .int .i64 0, .slice a i c] 34, rdR w0 g si]) := M28
  replace hI22 : xs.length = i ∧ i ≤ v3 ∧ rLoop rFld i s3 = (xs, si) := hI22
  show SC _ _ _ _ _ [(0, .pointer (some ⟨g, 0, none⟩)), (2, .pointer (some ⟨g1, 0, none⟩)), (15, .int .i64 v3), (16, .int .i64 i)] _
  obtain ⟨hlen, hle, hloop⟩ := hI22
  refine SC.seq (by kernel_rfl) (SC.region [0] (by kernel_rfl) (by kernel_rfl) ?_)
  rcases Bool.eq_false_or_eq_true (decide (((i : Nat) : Int) < ((v3 : Nat) : Int))) with h29 | h29
  ·skip
   have ph29 : ((i : Nat) : Int) < ((v3 : Nat) : Int) := of_decide_eq_true h29
   refine SL.bool (d := 17) (x := (decide (((i : Nat) : Int) < ((v3 : Nat) : Int)))) (y := true) h29 (by kernel_rfl) (SL.nil (SC.next (SC.seq (by kernel_rfl) (SC.yes (by kernel_rfl) (SC.skip (by kernel_rfl) (SC.next ?_))))))
   refine SC.seq (by kernel_rfl) (SC.block (i := 2) (by kernel_rfl) (SC.seq (by kernel_rfl) (SC.region [0, 1, 2, 3, 4, 5, 6] (by kernel_rfl) (by kernel_rfl) (SL.run (d := 18) (v := .pointer (some ⟨g, 0, none⟩)) (by kernel_rfl) ?_))))
   obtain ⟨v4, s4, hv4⟩ : ∃ x y, rNm si = (x, y) := ⟨_, _, rfl⟩
   refine SL.call (d := 19) (f := 33) (vs := [.pointer (some ⟨g, 0, none⟩)]) (by kernel_rfl) (by kernel_rfl) (by have := name_walk (HR.now M28 2 rfl); rw [hv4] at this; exact this) ?_
   rintro e w30 ⟨rfl, hR, hk⟩
   refine ⟨_, rfl, ?_⟩
   have M32 := M28.rdr 2 rfl hR hk
   refine SL.run (d := 20) (v := .pointer (some ⟨g, 0, none⟩)) (by kernel_rfl) ?_
   obtain ⟨v5, s5, hv5, bv5⟩ := num_nat (HR.now M32 2 rfl) 262144 (by decide)
   refine SL.call (d := 21) (f := 38) (vs := [.pointer (some ⟨g, 0, none⟩), .int .i64 262144]) (by kernel_rfl) (by kernel_rfl) (by have := number_walk (HR.now M32 2 rfl) 262144 (by decide) (by decide); rw [hv5] at this; exact this) ?_
   rintro e w33 ⟨rfl, hR, hk⟩
   refine ⟨_, rfl, ?_⟩
   have M35 := M32.rdr 2 rfl hR hk
   refine SL.build (d := 22) (t := 37) (ps := [(0, .string v4), (1, .int .i64 v5)]) (cs := #[.string v4, .int .i64 v5, .int .i64 0, .int .i64 0]) (by kernel_rfl) (by kernel_rfl) (SL.allocM (d := 3) (t := 37) (z := .agg #[.string ⟨#[]⟩, .int .i64 0, .int .i64 0, .int .i64 0]) (cs := #[.string ⟨#[]⟩, .int .i64 0, .int .i64 0, .int .i64 0]) M35 (by kernel_rfl) (by kernel_rfl) rfl ?_)
   intro g36 w37 hb38 ⟨bg36, lg36⟩ M39
   refine SL.storeM (t := 37) (a := .pointer (some ⟨g36, 0, none⟩)) (v := .agg #[.string v4, .int .i64 v5, .int .i64 0, .int .i64 0]) (by kernel_rfl) (M39.stBox 0 rfl rfl (by kernel_rfl) rfl) ?_
   intro w40 M41 hk42 shk42
   refine SL.nil (SC.next (SC.seq (by kernel_rfl) (SC.region [0, 1, 2, 3] (by kernel_rfl) (by kernel_rfl) (SL.run (d := 23) (v := .pointer (some ⟨g, 0, none⟩)) (by kernel_rfl) ?_))))
   obtain ⟨v6, s6, hv6⟩ : ∃ x y, rRef s5 = (x, y) := ⟨_, _, rfl⟩
   refine SL.call (d := 24) (f := 69) (vs := [.pointer (some ⟨g, 0, none⟩)]) (by kernel_rfl) (by kernel_rfl) (by have := rdref_walk (HR.now M41 3 rfl); rw [hv6] at this; exact this) ?_
   rintro e w43 ⟨rfl, hR, hk⟩
   refine ⟨_, rfl, ?_⟩
   have M45 := M41.rdr 3 rfl hR hk
   refine SL.run (d := 25) (v := .pointer (some ⟨g36, 2, none⟩)) (by kernel_rfl) (SL.storeM (t := 30) (a := .pointer (some ⟨g36, 2, none⟩)) (v := .agg #[.int .i64 v6.mod, .int .i64 v6.idx]) (by kernel_rfl) (M45.stPart 0 rfl 2 rfl (by kernel_rfl) rfl rfl) ?_)
   intro w46 M47 hk48 shk48
   refine SL.nil (SC.next (SC.region [0, 1, 2, 3, 4, 5, 6] (by kernel_rfl) (by kernel_rfl) (SL.run (d := 26) (v := .pointer (some ⟨g1, 5, none⟩)) (by kernel_rfl) (SL.load (d := 27) (t := 32) (a := .pointer (some ⟨g1, 5, none⟩)) (v := .slice a i c) (by kernel_rfl) (M47.ldCell 2 rfl (j := 5) (v := .slice a i c) rfl Try.underlying32 rfl) (SL.load (d := 28) (t := 37) (a := .pointer (some ⟨g36, 0, none⟩)) (v := .agg #[.string v4, .int .i64 v5, .int .i64 v6.mod, .int .i64 v6.idx]) (by kernel_rfl) (M47.ldBox 0 rfl Try.underlying37 rfl (by kernel_rfl)) (SL.buildSliceM (d := 29) (t := 32) (e := 37) (len := 1) (size := 4) (z := .agg #[.string ⟨#[]⟩, .int .i64 0, .int .i64 0, .int .i64 0]) (ps := [(0, .agg #[.string v4, .int .i64 v5, .int .i64 v6.mod, .int .i64 v6.idx])]) (cs := #[.string v4, .int .i64 v5, .int .i64 v6.mod, .int .i64 v6.idx]) M47 (by kernel_rfl) Try.underlying32 (by kernel_rfl) rfl rfl (by kernel_rfl) ?_))))))
   intro g49 w50 hb51 ⟨bg49, lg49⟩ M52
   refine SL.appendM (d := 30) (ts := [32, 32]) (ty := 32) (vs := [.slice a i c, .slice (some ⟨g49, 0, none⟩) 1 1]) (k' := i + 1) (by kernel_rfl) (Mem.append (m := 1) (news := [.string v4, .int .i64 v5, .int .i64 v6.mod, .int .i64 v6.idx]) M52 2 rfl (ET.of Try.underlying32 (by kernel_rfl) (by decide) (by decide) : ET Try.prog 32 37 (.agg #[.string ⟨#[]⟩, .int .i64 0, .int .i64 0, .int .i64 0]) 4 40) (rd_box M52 0 rfl (by kernel_rfl) rfl) rfl (by intro u hu; simp only [List.mem_cons, List.not_mem_nil, or_false] at hu; rcases hu with rfl | rfl | rfl | rfl <;> rfl) (by omega) (by omega) (by omega)) ?_
   intro a53 c54 w55 M56 hk57
   refine SL.run (d := 31) (v := .pointer (some ⟨g1, 5, none⟩)) (by kernel_rfl) (SL.storeM (t := 32) (a := .pointer (some ⟨g1, 5, none⟩)) (v := .slice a53 (i + 1) c54) (by kernel_rfl) (M56.st1 3 rfl 5 rfl 32 rfl (by kernel_rfl) rfl) ?_)
   intro w58 M59 hk60 shk60
   refine SL.nil (SQ.blockNormal (SC.next (SC.region [0, 1] (by kernel_rfl) (by kernel_rfl) (SL.int (d := 32) (q := .i64) (x := IntKind.wrap .i64 (((i : Nat) : Int) + (1 : Int))) (y := ((i + 1 : Nat) : Int)) (wr64 (by omega) (by omega) (by omega)) (by kernel_rfl) (SL.run (d := 16) (v := .int .i64 ((i + 1 : Nat) : Int)) (by kernel_rfl) (SL.nil ?_))))))
   have M61 := M59.keep [2, 3, 4] rfl (L' := [rw' a53 (i + 1) c54 37 4 ((xs.flatMap Fld.cells) ++ [.string v4, .int .i64 v5, .int .i64 v6.mod, .int .i64 v6.idx]), bx g1 #[.int .i64 v1, .int .i64 0, .int .i64 v2, .int .i64 0, .int .i64 0, .slice a53 (i + 1) c54] 34, rdR w0 g s6]) rfl
   have e1 : rFld si = ((⟨v4, (v5 : Int), v6⟩ : Fld), s6) := by unfold rFld; rw [hv4]; dsimp only; rw [hv5]; dsimp only; rw [hv6]
   have ex : (xs.flatMap Fld.cells) ++ [.string v4, .int .i64 v5, .int .i64 v6.mod, .int .i64 v6.idx] = (xs ++ [(⟨v4, (v5 : Int), v6⟩ : Fld)]).flatMap Fld.cells := by rw [List.flatMap_append]; rfl
   rw [ex] at M61
   exact ag24 ⟨i + 1, a53, c54, xs ++ [(⟨v4, (v5 : Int), v6⟩ : Fld)], s6⟩ (by kernel_rfl) ⟨M61, by rw [List.length_append, hlen]; rfl, by omega, rLoop_snoc _ _ _ hloop e1⟩ (by omega)
  ·skip
   have ph29 : ¬ (((i : Nat) : Int) < ((v3 : Nat) : Int)) := of_decide_eq_false h29
   have hiv : i = v3 := by omega
   refine SL.bool (d := 17) (x := (decide (((i : Nat) : Int) < ((v3 : Nat) : Int)))) (y := false) h29 (by kernel_rfl) (SL.nil (SC.next (SC.seq (by kernel_rfl) (SC.no (by kernel_rfl) (SC.exit (i := 1) (by kernel_rfl) (SQ.seqExit (by nofun) ?_))))))
   refine ex25 (by nofun) (SQ.blockHere (SC.next (SC.seq (by kernel_rfl) (SC.region [0, 1] (by kernel_rfl) (by kernel_rfl) (SL.load (d := 33) (t := 34) (a := .pointer (some ⟨g1, 0, none⟩)) (v := .agg #[.int .i64 v1, .int .i64 0, .int .i64 v2, .int .i64 0, .int .i64 0, .slice a i c]) (by kernel_rfl) (M28.ldBox 1 rfl Try.underlying34 rfl (by kernel_rfl)) (SL.storeM (t := 34) (a := .pointer (some ⟨g1, 0, none⟩)) (v := .agg #[.int .i64 v1, .int .i64 0, .int .i64 v2, .int .i64 0, .int .i64 0, .slice a i c]) (by kernel_rfl) (M28.stBox 1 rfl rfl (by kernel_rfl) rfl) ?_))))))
   intro w62 M63 hk64 shk64
   refine SL.nil (SC.next (SC.ret (by kernel_rfl) (SQ.blockRet (SQ.seqExit (by nofun) ?_))))
   refine SQ.retE (P := Try.prog) (v := .agg #[.int .i64 v1, .int .i64 0, .int .i64 v2, .int .i64 0, .int .i64 0, .slice a i c]) (.inr rfl) (fun a ha => ?_) ?_
   ·exact res_c (by kernel_rfl) (ha.getD (t := 2) (v := .pointer (some ⟨g1, 0, none⟩)) (by kernel_rfl)) (M63.ldBox 1 rfl Try.underlying34 rfl (by kernel_rfl))
   have e1 : rTyp s = (⟨((v1 : Nat) : Int), 0, ((v2 : Nat) : Int), ⟨0, 0⟩, xs⟩, si) := by
    unfold rTyp; rw [hv1]; dsimp only
    have e2 : rBody8 ((v1 : Nat) : Int) s1 = rRecord s1 := if_pos pf2
    rw [e2]; unfold rRecord; rw [hv2]; dsimp only
    unfold rMany; rw [hv3]; dsimp only; rw [Int.toNat_natCast, ← hiv, hloop]
   rw [e1]
   skip
   have hn : NewR we w62 (typR ⟨((v1 : Nat) : Int), 0, ((v2 : Nat) : Int), ⟨0, 0⟩, ⟨a, c, xs⟩⟩) := by have := newAt (G := (· = g)) M63 0 2 rfl rfl (by decide) rfl; rw [← hlen] at this; exact this
   exact ⟨⟨((v1 : Nat) : Int), 0, ((v2 : Nat) : Int), ⟨0, 0⟩, ⟨a, c, xs⟩⟩, by rw [← hlen]; rfl, rfl, hn, HR.now M63 2 rfl, M63.ke⟩
 ·skip
  have ph11 : ¬ (((v1 : Nat) : Int) = (2 : Int)) := of_decide_eq_false h11
  have pf2 := ph11
  refine SL.bool (d := 10) (x := (((v1 : Nat) : Int) == (2 : Int))) (y := false) ((int_beq _ _).trans h11) (by kernel_rfl) (SL.run (d := 9) (v := .bool false) (by kernel_rfl) (SL.nil (SC.next (SC.no (by kernel_rfl) (SC.seq (by kernel_rfl) (SC.region [0, 1] (by kernel_rfl) (by kernel_rfl) ?_))))))
  rcases Bool.eq_false_or_eq_true (decide (((v1 : Nat) : Int) = (1 : Int))) with h65 | h65
  ·skip
   have ph65 : ((v1 : Nat) : Int) = (1 : Int) := of_decide_eq_true h65
   have pf1 := ph65
   refine SL.bool (d := 35) (x := (((v1 : Nat) : Int) == (1 : Int))) (y := true) ((int_beq _ _).trans h65) (by kernel_rfl) (SL.run (d := 34) (v := .bool true) (by kernel_rfl) (SL.nil (SC.next (SC.yes (by kernel_rfl) (SC.seq (by kernel_rfl) (SC.region [0, 1, 2, 3] (by kernel_rfl) (by kernel_rfl) ?_))))))
   refine SL.run (d := 36) (v := .pointer (some ⟨g, 0, none⟩)) (by kernel_rfl) ?_
   obtain ⟨v7, s7, hv7, bv7⟩ := num_nat (HR.now M9 1 rfl) 65535 (by decide)
   refine SL.call (d := 37) (f := 38) (vs := [.pointer (some ⟨g, 0, none⟩), .int .i64 65535]) (by kernel_rfl) (by kernel_rfl) (by have := number_walk (HR.now M9 1 rfl) 65535 (by decide) (by decide); rw [hv7] at this; exact this) ?_
   rintro e w66 ⟨rfl, hR, hk⟩
   refine ⟨_, rfl, ?_⟩
   have M68 := M9.rdr 1 rfl hR hk
   refine SL.run (d := 38) (v := .pointer (some ⟨g1, 1, none⟩)) (by kernel_rfl) (SL.storeM (t := 3) (a := .pointer (some ⟨g1, 1, none⟩)) (v := .int .i64 v7) (by kernel_rfl) (M68.st1 0 rfl 1 rfl 3 rfl (by kernel_rfl) rfl) ?_)
   intro w69 M70 hk71 shk71
   refine SL.nil (SC.next (SC.region [0, 1, 2, 3] (by kernel_rfl) (by kernel_rfl) (SL.run (d := 39) (v := .pointer (some ⟨g, 0, none⟩)) (by kernel_rfl) ?_)))
   obtain ⟨v8, s8, hv8, bv8⟩ := num_nat (HR.now M70 1 rfl) 262144 (by decide)
   refine SL.call (d := 40) (f := 38) (vs := [.pointer (some ⟨g, 0, none⟩), .int .i64 262144]) (by kernel_rfl) (by kernel_rfl) (by have := number_walk (HR.now M70 1 rfl) 262144 (by decide) (by decide); rw [hv8] at this; exact this) ?_
   rintro e w72 ⟨rfl, hR, hk⟩
   refine ⟨_, rfl, ?_⟩
   have M74 := M70.rdr 1 rfl hR hk
   refine SL.run (d := 41) (v := .pointer (some ⟨g1, 2, none⟩)) (by kernel_rfl) (SL.storeM (t := 3) (a := .pointer (some ⟨g1, 2, none⟩)) (v := .int .i64 v8) (by kernel_rfl) (M74.st1 0 rfl 2 rfl 3 rfl (by kernel_rfl) rfl) ?_)
   intro w75 M76 hk77 shk77
   refine SL.nil (SQ.blockNormal (SC.next (SC.keep (l' := [(0, .pointer (some ⟨g, 0, none⟩)), (2, .pointer (some ⟨g1, 0, none⟩))]) [0, 2] (by kernel_rfl) (SC.seq (by kernel_rfl) (SC.region [0, 1, 2, 3] (by kernel_rfl) (by kernel_rfl) (SL.run (d := 42) (v := .pointer (some ⟨g, 0, none⟩)) (by kernel_rfl) ?_))))))
   obtain ⟨v9, s9, hv9⟩ : ∃ x y, rRef s8 = (x, y) := ⟨_, _, rfl⟩
   refine SL.call (d := 43) (f := 69) (vs := [.pointer (some ⟨g, 0, none⟩)]) (by kernel_rfl) (by kernel_rfl) (by have := rdref_walk (HR.now M76 1 rfl); rw [hv9] at this; exact this) ?_
   rintro e w78 ⟨rfl, hR, hk⟩
   refine ⟨_, rfl, ?_⟩
   have M80 := M76.rdr 1 rfl hR hk
   refine SL.run (d := 44) (v := .pointer (some ⟨g1, 3, none⟩)) (by kernel_rfl) (SL.storeM (t := 30) (a := .pointer (some ⟨g1, 3, none⟩)) (v := .agg #[.int .i64 v9.mod, .int .i64 v9.idx]) (by kernel_rfl) (M80.stPart 0 rfl 3 rfl (by kernel_rfl) rfl rfl) ?_)
   intro w81 M82 hk83 shk83
   refine SL.nil (SC.next (SC.seq (by kernel_rfl) (SC.region [0, 1] (by kernel_rfl) (by kernel_rfl) (SL.load (d := 45) (t := 34) (a := .pointer (some ⟨g1, 0, none⟩)) (v := .agg #[.int .i64 v1, .int .i64 v7, .int .i64 v8, .int .i64 v9.mod, .int .i64 v9.idx, .slice none 0 0]) (by kernel_rfl) (M82.ldBox 0 rfl Try.underlying34 rfl (by kernel_rfl)) (SL.storeM (t := 34) (a := .pointer (some ⟨g1, 0, none⟩)) (v := .agg #[.int .i64 v1, .int .i64 v7, .int .i64 v8, .int .i64 v9.mod, .int .i64 v9.idx, .slice none 0 0]) (by kernel_rfl) (M82.stBox 0 rfl rfl (by kernel_rfl) rfl) ?_)))))
   intro w84 M85 hk86 shk86
   refine SL.nil (SC.next (SC.ret (by kernel_rfl) ?_))
   refine SQ.retE (P := Try.prog) (v := .agg #[.int .i64 v1, .int .i64 v7, .int .i64 v8, .int .i64 v9.mod, .int .i64 v9.idx, .slice none 0 0]) (.inr rfl) (fun a ha => ?_) ?_
   ·exact res_c (by kernel_rfl) (ha.getD (t := 2) (v := .pointer (some ⟨g1, 0, none⟩)) (by kernel_rfl)) (M85.ldBox 0 rfl Try.underlying34 rfl (by kernel_rfl))
   have e1 : rTyp s = (⟨((v1 : Nat) : Int), ((v7 : Nat) : Int), ((v8 : Nat) : Int), v9, []⟩, s9) := by
    unfold rTyp; rw [hv1]; dsimp only
    have e2 : rBody8 ((v1 : Nat) : Int) s1 = rArray s1 := by unfold rBody8; rw [if_neg pf2, if_pos pf1]
    rw [e2]; unfold rArray; rw [hv7]; dsimp only; rw [hv8]; dsimp only; rw [hv9]
   rw [e1]
   have hn : NewR we w84 (typR ⟨((v1 : Nat) : Int), ((v7 : Nat) : Int), ((v8 : Nat) : Int), ⟨v9.mod, v9.idx⟩, ⟨none, 0, []⟩⟩) := newNil we w84 _ _
   exact ⟨⟨((v1 : Nat) : Int), ((v7 : Nat) : Int), ((v8 : Nat) : Int), ⟨v9.mod, v9.idx⟩, ⟨none, 0, []⟩⟩, rfl, rfl, hn, HR.now M85 1 rfl, M85.ke⟩
  ·skip
   have ph65 : ¬ (((v1 : Nat) : Int) = (1 : Int)) := of_decide_eq_false h65
   have pf1 := ph65
   refine SL.bool (d := 35) (x := (((v1 : Nat) : Int) == (1 : Int))) (y := false) ((int_beq _ _).trans h65) (by kernel_rfl) (SL.run (d := 34) (v := .bool false) (by kernel_rfl) (SL.nil (SC.next (SC.no (by kernel_rfl) (SC.skip (by kernel_rfl) (SQ.blockNormal ?_))))))
   refine SC.next (SC.seq (by kernel_rfl) (SC.region [0, 1, 2, 3] (by kernel_rfl) (by kernel_rfl) (SL.run (d := 42) (v := .pointer (some ⟨g, 0, none⟩)) (by kernel_rfl) ?_)))
   obtain ⟨v10, s10, hv10⟩ : ∃ x y, rRef s1 = (x, y) := ⟨_, _, rfl⟩
   refine SL.call (d := 43) (f := 69) (vs := [.pointer (some ⟨g, 0, none⟩)]) (by kernel_rfl) (by kernel_rfl) (by have := rdref_walk (HR.now M9 1 rfl); rw [hv10] at this; exact this) ?_
   rintro e w87 ⟨rfl, hR, hk⟩
   refine ⟨_, rfl, ?_⟩
   have M89 := M9.rdr 1 rfl hR hk
   refine SL.run (d := 44) (v := .pointer (some ⟨g1, 3, none⟩)) (by kernel_rfl) (SL.storeM (t := 30) (a := .pointer (some ⟨g1, 3, none⟩)) (v := .agg #[.int .i64 v10.mod, .int .i64 v10.idx]) (by kernel_rfl) (M89.stPart 0 rfl 3 rfl (by kernel_rfl) rfl rfl) ?_)
   intro w90 M91 hk92 shk92
   refine SL.nil (SC.next (SC.seq (by kernel_rfl) (SC.region [0, 1] (by kernel_rfl) (by kernel_rfl) (SL.load (d := 45) (t := 34) (a := .pointer (some ⟨g1, 0, none⟩)) (v := .agg #[.int .i64 v1, .int .i64 0, .int .i64 0, .int .i64 v10.mod, .int .i64 v10.idx, .slice none 0 0]) (by kernel_rfl) (M91.ldBox 0 rfl Try.underlying34 rfl (by kernel_rfl)) (SL.storeM (t := 34) (a := .pointer (some ⟨g1, 0, none⟩)) (v := .agg #[.int .i64 v1, .int .i64 0, .int .i64 0, .int .i64 v10.mod, .int .i64 v10.idx, .slice none 0 0]) (by kernel_rfl) (M91.stBox 0 rfl rfl (by kernel_rfl) rfl) ?_)))))
   intro w93 M94 hk95 shk95
   refine SL.nil (SC.next (SC.keep (l' := [(2, .pointer (some ⟨g1, 0, none⟩))]) [2] (by kernel_rfl) (SC.ret (by kernel_rfl) ?_)))
   refine SQ.retE (P := Try.prog) (v := .agg #[.int .i64 v1, .int .i64 0, .int .i64 0, .int .i64 v10.mod, .int .i64 v10.idx, .slice none 0 0]) (.inr rfl) (fun a ha => ?_) ?_
   ·exact res_c (by kernel_rfl) (ha.getD (t := 2) (v := .pointer (some ⟨g1, 0, none⟩)) (by kernel_rfl)) (M94.ldBox 0 rfl Try.underlying34 rfl (by kernel_rfl))
   have e1 : rTyp s = (⟨((v1 : Nat) : Int), 0, 0, v10, []⟩, s10) := by
    unfold rTyp; rw [hv1]; dsimp only
    have e2 : rBody8 ((v1 : Nat) : Int) s1 = rBare s1 := by unfold rBody8; rw [if_neg pf2, if_neg pf1]
    rw [e2]; unfold rBare; rw [hv10]
   rw [e1]
   have hn : NewR we w93 (typR ⟨((v1 : Nat) : Int), 0, 0, ⟨v10.mod, v10.idx⟩, ⟨none, 0, []⟩⟩) := newNil we w93 _ _
   exact ⟨⟨((v1 : Nat) : Int), 0, 0, ⟨v10.mod, v10.idx⟩, ⟨none, 0, []⟩⟩, rfl, rfl, hn, HR.now M94 1 rfl, M94.ke⟩
set_option maxHeartbeats 1000000 in
theorem oneObject_walk (HR : Rdr w0 we g s) :
  Calls Try.prog 39 #[.pointer (some ⟨g, 0, none⟩)] we fun e w' => ∃ t : FO, e = .returned (.agg t.cells.toArray) ∧ t.d = (rObj8 s).1 ∧ NewR we w' (objR t) ∧ Rdr w0 w' g (rObj8 s).2 ∧ Ke (· = g) we w' := by
 have M0 := HR.mem
 refine SC.enter (vs := [.pointer (some ⟨g, 0, none⟩)]) (n := 56) (l := [(0, .pointer (some ⟨g, 0, none⟩))]) Try.func39 (by kernel_rfl) (by kernel_rfl) (by kernel_rfl) (by kernel_rfl) (SC.seq (by kernel_rfl) (SC.region [0] (by kernel_rfl) (by kernel_rfl) (SL.allocM (d := 2) (t := 42) (z := .agg #[.int .i64 0, .string ⟨#[]⟩, .int .i64 0, .int .i64 0, .int .u32 0, .slice none 0 0]) (cs := #[.int .i64 0, .string ⟨#[]⟩, .int .i64 0, .int .i64 0, .int .u32 0, .slice none 0 0]) M0 (by kernel_rfl) (by kernel_rfl) rfl ?_)))
 intro g1 w2 hb3 ⟨bg1, lg1⟩ M4
 refine SL.nil (SC.next (SC.seq (by kernel_rfl) (SC.region [0, 1, 2, 3] (by kernel_rfl) (by kernel_rfl) (SL.run (d := 4) (v := .pointer (some ⟨g, 0, none⟩)) (by kernel_rfl) ?_))))
 obtain ⟨v1, s1, hv1, bv1⟩ := byte_nat (HR.now M4 1 rfl)
 refine SL.call (d := 5) (f := 36) (vs := [.pointer (some ⟨g, 0, none⟩)]) (by kernel_rfl) (by kernel_rfl) (by have := byte_walk (HR.now M4 1 rfl); rw [hv1] at this; exact this) ?_
 rintro e w5 ⟨rfl, hR, hk⟩
 refine ⟨_, rfl, ?_⟩
 have M7 := M4.rdr 1 rfl hR hk
 refine SL.run (d := 6) (v := .pointer (some ⟨g1, 0, none⟩)) (by kernel_rfl) (SL.storeM (t := 38) (a := .pointer (some ⟨g1, 0, none⟩)) (v := .int .i64 v1) (by kernel_rfl) (M7.st1 0 rfl 0 rfl 38 rfl (by kernel_rfl) rfl) ?_)
 intro w8 M9 hk10 shk10
 refine SL.nil (SC.next (SC.seq (by kernel_rfl) (SC.region [0, 1, 2, 3] (by kernel_rfl) (by kernel_rfl) (SL.run (d := 7) (v := .pointer (some ⟨g, 0, none⟩)) (by kernel_rfl) ?_))))
 obtain ⟨v2, s2, hv2⟩ : ∃ x y, rNm s1 = (x, y) := ⟨_, _, rfl⟩
 refine SL.call (d := 8) (f := 33) (vs := [.pointer (some ⟨g, 0, none⟩)]) (by kernel_rfl) (by kernel_rfl) (by have := name_walk (HR.now M9 1 rfl); rw [hv2] at this; exact this) ?_
 rintro e w11 ⟨rfl, hR, hk⟩
 refine ⟨_, rfl, ?_⟩
 have M13 := M9.rdr 1 rfl hR hk
 refine SL.run (d := 9) (v := .pointer (some ⟨g1, 1, none⟩)) (by kernel_rfl) (SL.storeM (t := 9) (a := .pointer (some ⟨g1, 1, none⟩)) (v := .string v2) (by kernel_rfl) (M13.st1 0 rfl 1 rfl 9 rfl (by kernel_rfl) rfl) ?_)
 intro w14 M15 hk16 shk16
 refine SL.nil (SC.next (SC.seq (by kernel_rfl) (SC.region [0, 1, 2, 3] (by kernel_rfl) (by kernel_rfl) (SL.run (d := 10) (v := .pointer (some ⟨g, 0, none⟩)) (by kernel_rfl) ?_))))
 obtain ⟨v3, s3, hv3⟩ : ∃ x y, rRef s2 = (x, y) := ⟨_, _, rfl⟩
 refine SL.call (d := 11) (f := 69) (vs := [.pointer (some ⟨g, 0, none⟩)]) (by kernel_rfl) (by kernel_rfl) (by have := rdref_walk (HR.now M15 1 rfl); rw [hv3] at this; exact this) ?_
 rintro e w17 ⟨rfl, hR, hk⟩
 refine ⟨_, rfl, ?_⟩
 have M19 := M15.rdr 1 rfl hR hk
 refine SL.run (d := 12) (v := .pointer (some ⟨g1, 2, none⟩)) (by kernel_rfl) (SL.storeM (t := 30) (a := .pointer (some ⟨g1, 2, none⟩)) (v := .agg #[.int .i64 v3.mod, .int .i64 v3.idx]) (by kernel_rfl) (M19.stPart 0 rfl 2 rfl (by kernel_rfl) rfl rfl) ?_)
 intro w20 M21 hk22 shk22
 refine SL.nil (SC.next (SC.seq (by kernel_rfl) (SC.seq (by kernel_rfl) (SC.region [0, 1] (by kernel_rfl) (by kernel_rfl) (SL.run (d := 13) (v := .pointer (some ⟨g1, 0, none⟩)) (by kernel_rfl) (SL.load (d := 14) (t := 38) (a := .pointer (some ⟨g1, 0, none⟩)) (v := .int .i64 v1) (by kernel_rfl) (M21.ldCell 0 rfl (j := 0) (v := .int .i64 v1) rfl Try.underlying38 rfl) ?_))))))
 refine SL.nil (SC.next (SC.block (i := 0) (by kernel_rfl) (SC.seq (by kernel_rfl) (SC.seq (by kernel_rfl) (SC.region [0, 1] (by kernel_rfl) (by kernel_rfl) ?_)))))
 rcases Bool.eq_false_or_eq_true (decide (((v1 : Nat) : Int) = (1 : Int))) with h23 | h23
 ·skip
  have ph23 : ((v1 : Nat) : Int) = (1 : Int) := of_decide_eq_true h23
  have pf1 := ph23
  refine SL.bool (d := 16) (x := (((v1 : Nat) : Int) == (1 : Int))) (y := true) ((int_beq _ _).trans h23) (by kernel_rfl) (SL.run (d := 15) (v := .bool true) (by kernel_rfl) (SL.nil (SC.next (SC.yes (by kernel_rfl) (SC.skip (by kernel_rfl) (SC.next ?_))))))
  refine SC.yes (by kernel_rfl) (SC.region [0, 1, 2, 3] (by kernel_rfl) (by kernel_rfl) (SL.run (d := 18) (v := .pointer (some ⟨g, 0, none⟩)) (by kernel_rfl) ?_))
  obtain ⟨v4, s4, hv4, bv4⟩ := word_nat (HR.now M21 1 rfl)
  refine SL.call (d := 19) (f := 34) (vs := [.pointer (some ⟨g, 0, none⟩)]) (by kernel_rfl) (by kernel_rfl) (by have := word_walk (HR.now M21 1 rfl); rw [hv4] at this; exact this) ?_
  rintro e w24 ⟨rfl, hR, hk⟩
  refine ⟨_, rfl, ?_⟩
  have M26 := M21.rdr 1 rfl hR hk
  refine SL.run (d := 20) (v := .pointer (some ⟨g1, 4, none⟩)) (by kernel_rfl) (SL.storeM (t := 39) (a := .pointer (some ⟨g1, 4, none⟩)) (v := .int .u32 v4) (by kernel_rfl) (M26.st1 0 rfl 4 rfl 39 rfl (by kernel_rfl) rfl) ?_)
  intro w27 M28 hk29 shk29
  refine SL.nil (SQ.blockNormal (SC.next (SC.keep (l' := [(2, .pointer (some ⟨g1, 0, none⟩))]) [2] (by kernel_rfl) (SC.seq (by kernel_rfl) (SC.region [0, 1] (by kernel_rfl) (by kernel_rfl) (SL.load (d := 55) (t := 42) (a := .pointer (some ⟨g1, 0, none⟩)) (v := .agg #[.int .i64 v1, .string v2, .int .i64 v3.mod, .int .i64 v3.idx, .int .u32 v4, .slice none 0 0]) (by kernel_rfl) (M28.ldBox 0 rfl Try.underlying42 rfl (by kernel_rfl)) ?_))))))
  refine SL.storeM (t := 42) (a := .pointer (some ⟨g1, 0, none⟩)) (v := .agg #[.int .i64 v1, .string v2, .int .i64 v3.mod, .int .i64 v3.idx, .int .u32 v4, .slice none 0 0]) (by kernel_rfl) (M28.stBox 0 rfl rfl (by kernel_rfl) rfl) ?_
  intro w30 M31 hk32 shk32
  refine SL.nil (SC.next (SC.ret (by kernel_rfl) ?_))
  refine SQ.retE (P := Try.prog) (v := .agg #[.int .i64 v1, .string v2, .int .i64 v3.mod, .int .i64 v3.idx, .int .u32 v4, .slice none 0 0]) (.inr rfl) (fun a ha => ?_) ?_
  ·exact res_c (by kernel_rfl) (ha.getD (t := 2) (v := .pointer (some ⟨g1, 0, none⟩)) (by kernel_rfl)) (M31.ldBox 0 rfl Try.underlying42 rfl (by kernel_rfl))
  have eh : rHead8 s = ((((v1 : Nat) : Int), v2, v3), s3) := by unfold rHead8; rw [hv1]; dsimp only; rw [hv2]; dsimp only; rw [hv3]
  have e1 : rObj8 s = (⟨((v1 : Nat) : Int), v2, v3, ((v4 : Nat) : Int), []⟩, s4) := by
   unfold rObj8; rw [eh]; dsimp only
   have e2 : rTail8 ((v1 : Nat) : Int) s3 = rValue s3 := if_pos (.inl pf1)
   rw [e2]; unfold rValue; rw [hv4]
  rw [e1]
  have hn : NewR we w30 (objR ⟨((v1 : Nat) : Int), v2, ⟨v3.mod, v3.idx⟩, ((v4 : Nat) : Int), ⟨none, 0, []⟩⟩) := newNil we w30 _ _
  exact ⟨⟨((v1 : Nat) : Int), v2, ⟨v3.mod, v3.idx⟩, ((v4 : Nat) : Int), ⟨none, 0, []⟩⟩, rfl, rfl, hn, HR.now M31 1 rfl, M31.ke⟩
 ·skip
  have ph23 : ¬ (((v1 : Nat) : Int) = (1 : Int)) := of_decide_eq_false h23
  have pf1 := ph23
  refine SL.bool (d := 16) (x := (((v1 : Nat) : Int) == (1 : Int))) (y := false) ((int_beq _ _).trans h23) (by kernel_rfl) (SL.run (d := 15) (v := .bool false) (by kernel_rfl) (SL.nil (SC.next (SC.no (by kernel_rfl) (SC.region [0, 1] (by kernel_rfl) (by kernel_rfl) ?_)))))
  rcases Bool.eq_false_or_eq_true (decide (((v1 : Nat) : Int) = (3 : Int))) with h33 | h33
  ·skip
   have ph33 : ((v1 : Nat) : Int) = (3 : Int) := of_decide_eq_true h33
   have pf3 := ph33
   refine SL.bool (d := 17) (x := (((v1 : Nat) : Int) == (3 : Int))) (y := true) ((int_beq _ _).trans h33) (by kernel_rfl) (SL.run (d := 15) (v := .bool true) (by kernel_rfl) (SL.nil (SC.next (SC.yes (by kernel_rfl) (SC.region [0, 1, 2, 3] (by kernel_rfl) (by kernel_rfl) (SL.run (d := 18) (v := .pointer (some ⟨g, 0, none⟩)) (by kernel_rfl) ?_))))))
   obtain ⟨v5, s5, hv5, bv5⟩ := word_nat (HR.now M21 1 rfl)
   refine SL.call (d := 19) (f := 34) (vs := [.pointer (some ⟨g, 0, none⟩)]) (by kernel_rfl) (by kernel_rfl) (by have := word_walk (HR.now M21 1 rfl); rw [hv5] at this; exact this) ?_
   rintro e w34 ⟨rfl, hR, hk⟩
   refine ⟨_, rfl, ?_⟩
   have M36 := M21.rdr 1 rfl hR hk
   refine SL.run (d := 20) (v := .pointer (some ⟨g1, 4, none⟩)) (by kernel_rfl) (SL.storeM (t := 39) (a := .pointer (some ⟨g1, 4, none⟩)) (v := .int .u32 v5) (by kernel_rfl) (M36.st1 0 rfl 4 rfl 39 rfl (by kernel_rfl) rfl) ?_)
   intro w37 M38 hk39 shk39
   refine SL.nil (SQ.blockNormal (SC.next (SC.keep (l' := [(2, .pointer (some ⟨g1, 0, none⟩))]) [2] (by kernel_rfl) (SC.seq (by kernel_rfl) (SC.region [0, 1] (by kernel_rfl) (by kernel_rfl) (SL.load (d := 55) (t := 42) (a := .pointer (some ⟨g1, 0, none⟩)) (v := .agg #[.int .i64 v1, .string v2, .int .i64 v3.mod, .int .i64 v3.idx, .int .u32 v5, .slice none 0 0]) (by kernel_rfl) (M38.ldBox 0 rfl Try.underlying42 rfl (by kernel_rfl)) ?_))))))
   refine SL.storeM (t := 42) (a := .pointer (some ⟨g1, 0, none⟩)) (v := .agg #[.int .i64 v1, .string v2, .int .i64 v3.mod, .int .i64 v3.idx, .int .u32 v5, .slice none 0 0]) (by kernel_rfl) (M38.stBox 0 rfl rfl (by kernel_rfl) rfl) ?_
   intro w40 M41 hk42 shk42
   refine SL.nil (SC.next (SC.ret (by kernel_rfl) ?_))
   refine SQ.retE (P := Try.prog) (v := .agg #[.int .i64 v1, .string v2, .int .i64 v3.mod, .int .i64 v3.idx, .int .u32 v5, .slice none 0 0]) (.inr rfl) (fun a ha => ?_) ?_
   ·exact res_c (by kernel_rfl) (ha.getD (t := 2) (v := .pointer (some ⟨g1, 0, none⟩)) (by kernel_rfl)) (M41.ldBox 0 rfl Try.underlying42 rfl (by kernel_rfl))
   have eh : rHead8 s = ((((v1 : Nat) : Int), v2, v3), s3) := by unfold rHead8; rw [hv1]; dsimp only; rw [hv2]; dsimp only; rw [hv3]
   have e1 : rObj8 s = (⟨((v1 : Nat) : Int), v2, v3, ((v5 : Nat) : Int), []⟩, s5) := by
    unfold rObj8; rw [eh]; dsimp only
    have e2 : rTail8 ((v1 : Nat) : Int) s3 = rValue s3 := if_pos (.inr pf3)
    rw [e2]; unfold rValue; rw [hv5]
   rw [e1]
   have hn : NewR we w40 (objR ⟨((v1 : Nat) : Int), v2, ⟨v3.mod, v3.idx⟩, ((v5 : Nat) : Int), ⟨none, 0, []⟩⟩) := newNil we w40 _ _
   exact ⟨⟨((v1 : Nat) : Int), v2, ⟨v3.mod, v3.idx⟩, ((v5 : Nat) : Int), ⟨none, 0, []⟩⟩, rfl, rfl, hn, HR.now M41 1 rfl, M41.ke⟩
  ·skip
   have ph33 : ¬ (((v1 : Nat) : Int) = (3 : Int)) := of_decide_eq_false h33
   have pf3 := ph33
   refine SL.bool (d := 17) (x := (((v1 : Nat) : Int) == (3 : Int))) (y := false) ((int_beq _ _).trans h33) (by kernel_rfl) (SL.run (d := 15) (v := .bool false) (by kernel_rfl) (SL.nil (SC.next (SC.no (by kernel_rfl) (SC.seq (by kernel_rfl) (SC.region [0, 1] (by kernel_rfl) (by kernel_rfl) ?_))))))
   rcases Bool.eq_false_or_eq_true (decide (((v1 : Nat) : Int) = (4 : Int))) with h43 | h43
   ·skip
    have ph43 : ((v1 : Nat) : Int) = (4 : Int) := of_decide_eq_true h43
    have pf4 := ph43
    refine SL.bool (d := 22) (x := (((v1 : Nat) : Int) == (4 : Int))) (y := true) ((int_beq _ _).trans h43) (by kernel_rfl) (SL.run (d := 21) (v := .bool true) (by kernel_rfl) (SL.nil (SC.next (SC.keep (l' := [(0, .pointer (some ⟨g, 0, none⟩)), (2, .pointer (some ⟨g1, 0, none⟩)), (21, .bool true)]) [0, 2, 21] (by kernel_rfl) (SC.yes (by kernel_rfl) (SC.seq (by kernel_rfl) ?_))))))
    refine SC.region [0, 1, 2, 3, 4] (by kernel_rfl) (by kernel_rfl) (SL.run (d := 23) (v := .pointer (some ⟨g, 0, none⟩)) (by kernel_rfl) ?_)
    obtain ⟨v6, s6, hv6, bv6⟩ := byte_nat (HR.now M21 1 rfl)
    refine SL.call (d := 24) (f := 36) (vs := [.pointer (some ⟨g, 0, none⟩)]) (by kernel_rfl) (by kernel_rfl) (by have := byte_walk (HR.now M21 1 rfl); rw [hv6] at this; exact this) ?_
    rintro e w44 ⟨rfl, hR, hk⟩
    refine ⟨_, rfl, ?_⟩
    have M46 := M21.rdr 1 rfl hR hk
    refine SL.int (d := 25) (q := .u32) (x := IntKind.wrap .u32 ((v6 : Nat) : Int)) (y := ((v6 : Nat) : Int)) (wr32 (by omega) (by omega) (by omega)) (by kernel_rfl) (SL.run (d := 26) (v := .pointer (some ⟨g1, 4, none⟩)) (by kernel_rfl) (SL.storeM (t := 39) (a := .pointer (some ⟨g1, 4, none⟩)) (v := .int .u32 v6) (by kernel_rfl) (M46.st1 0 rfl 4 rfl 39 rfl (by kernel_rfl) rfl) ?_))
    intro w47 M48 hk49 shk49
    refine SL.nil (SC.next (SC.seq (by kernel_rfl) (SC.region [0, 1, 2] (by kernel_rfl) (by kernel_rfl) (SL.run (d := 27) (v := .pointer (some ⟨g, 0, none⟩)) (by kernel_rfl) ?_))))
    obtain ⟨v7, s7, hv7, bv7⟩ := byte_nat (HR.now M48 1 rfl)
    refine SL.call (d := 28) (f := 36) (vs := [.pointer (some ⟨g, 0, none⟩)]) (by kernel_rfl) (by kernel_rfl) (by have := byte_walk (HR.now M48 1 rfl); rw [hv7] at this; exact this) ?_
    rintro e w50 ⟨rfl, hR, hk⟩
    refine ⟨_, rfl, ?_⟩
    have M52 := M48.rdr 1 rfl hR hk
    refine SL.run (d := 29) (v := .int .i64 0) (by kernel_rfl) (SL.nil (SC.next (SC.block (i := 1) (by kernel_rfl) ?_)))
    have M53 : Mem ⟨we, (· = g)⟩ w50 ([rw' none 0 0 97 3 [], bx g1 #[.int .i64 v1, .string v2, .int .i64 v3.mod, .int .i64 v3.idx, .int .u32 v6, .slice none 0 0] 42, rdR w0 g s7]) := Mem.addNil M52
    refine SC.loopA (X := Nat × Option Addr × Nat × List Prm × St) (fun x => [(0, .pointer (some ⟨g, 0, none⟩)), (2, .pointer (some ⟨g1, 0, none⟩)), (28, .int .i64 v7), (29, .int .i64 ((x.1 : Nat) : Int))]) (fun x wr => Mem ⟨we, (· = g)⟩ wr ([rw' x.2.1 x.1 x.2.2.1 97 3 (x.2.2.2.1.flatMap Prm.cells), bx g1 #[.int .i64 v1, .string v2, .int .i64 v3.mod, .int .i64 v3.idx, .int .u32 v6, .slice x.2.1 x.1 x.2.2.1] 42, rdR w0 g x.2.2.2.2]) ∧ (x.2.2.2.1.length = x.1 ∧ x.1 ≤ v7 ∧ rLoop rPrm x.1 s7 = (x.2.2.2.1, x.2.2.2.2))) (fun x => v7 + 1 - x.1) (PanOk.block (PanOk.block (PanOk.seq PanOk.body))) (by kernel_rfl) ⟨0, none, 0, [], s7⟩ (by kernel_rfl) ⟨M53, rfl, Nat.zero_le _, rfl⟩ ?_
    rintro ⟨i, a, c, xs, si⟩ w59 ⟨M60, hI54⟩ Q55 ag56 ex57 pn58
    replace M60 : Mem ⟨we, (· = g)⟩ w59 ([rw' a i c 97 3 (xs.flatMap Prm.cells), bx g1 #[.int .i64 v1, .string v2, .int .i64 v3.mod, .int .i64 v3.idx, .int .u32 v6, .slice a i c] 42, rdR w0 g si]) := M60
    replace hI54 : xs.length = i ∧ i ≤ v7 ∧ rLoop rPrm i s7 = (xs, si) := hI54
    show SC _ _ _ _ _ [(0, .pointer (some ⟨g, 0, none⟩)), (2, .pointer (some ⟨g1, 0, none⟩)), (28, .int .i64 v7), (29, .int .i64 i)] _
    obtain ⟨hlen, hle, hloop⟩ := hI54
    refine SC.seq (by kernel_rfl) (SC.region [0] (by kernel_rfl) (by kernel_rfl) ?_)
    rcases Bool.eq_false_or_eq_true (decide (((i : Nat) : Int) < ((v7 : Nat) : Int))) with h61 | h61
    ·skip
     have ph61 : ((i : Nat) : Int) < ((v7 : Nat) : Int) := of_decide_eq_true h61
     refine SL.bool (d := 30) (x := (decide (((i : Nat) : Int) < ((v7 : Nat) : Int)))) (y := true) h61 (by kernel_rfl) (SL.nil (SC.next (SC.seq (by kernel_rfl) (SC.yes (by kernel_rfl) (SC.skip (by kernel_rfl) (SC.next ?_))))))
     refine SC.seq (by kernel_rfl) (SC.block (i := 2) (by kernel_rfl) (SC.seq (by kernel_rfl) (SC.region [0, 1, 2] (by kernel_rfl) (by kernel_rfl) (SL.run (d := 31) (v := .pointer (some ⟨g, 0, none⟩)) (by kernel_rfl) ?_))))
     obtain ⟨v8, s8, hv8, bv8⟩ := byte_nat (HR.now M60 2 rfl)
     refine SL.call (d := 32) (f := 36) (vs := [.pointer (some ⟨g, 0, none⟩)]) (by kernel_rfl) (by kernel_rfl) (by have := byte_walk (HR.now M60 2 rfl); rw [hv8] at this; exact this) ?_
     rintro e w62 ⟨rfl, hR, hk⟩
     refine ⟨_, rfl, ?_⟩
     have M64 := M60.rdr 2 rfl hR hk
     refine SL.run (d := 3) (v := .int .i64 v8) (by kernel_rfl) (SL.nil (SC.next (SC.seq (by kernel_rfl) ?_)))
     obtain ⟨ra, rc, rl, rb, M65, rhr, rhf, rhs⟩ := M64.rdOpen 2 rfl
     refine SC.region [0, 1, 2, 3, 4, 5, 6, 7, 8, 9, 10, 11] (by kernel_rfl) (by kernel_rfl) (SL.run (d := 33) (v := .pointer (some ⟨g, 0, none⟩)) (by kernel_rfl) (SL.run (d := 34) (v := .pointer (some ⟨g, 0, none⟩)) (by kernel_rfl) (SL.run (d := 35) (v := .pointer (some ⟨g, 0, none⟩)) (by kernel_rfl) (SL.run (d := 36) (v := .pointer (some ⟨g, 1, none⟩)) (by kernel_rfl) (SL.load (d := 37) (t := 4) (a := .pointer (some ⟨g, 1, none⟩)) (v := .bool rb) (by kernel_rfl) (M65.ldCell 2 rfl (j := 1) (v := .bool rb) rfl Try.underlying4 rfl) (SL.run (d := 38) (v := .bool rb) (by kernel_rfl) ?_))))))
     cases rb
     ·skip
      refine SL.run (d := 39) (v := .int .i64 v8) (by kernel_rfl) ?_
      rcases Bool.eq_false_or_eq_true (decide ((1 : Int) < ((v8 : Nat) : Int))) with h66 | h66
      ·skip
       have ph66 : (1 : Int) < ((v8 : Nat) : Int) := of_decide_eq_true h66
       refine SL.bool (d := 40) (x := (decide ((1 : Int) < ((v8 : Nat) : Int)))) (y := true) h66 (by kernel_rfl) (SL.pick (d := 41) (v := .bool true) (by kernel_rfl) (SL.run (d := 42) (v := .pointer (some ⟨g, 0, none⟩)) (by kernel_rfl) (SL.run (d := 43) (v := .pointer (some ⟨g, 1, none⟩)) (by kernel_rfl) (SL.storeM (t := 4) (a := .pointer (some ⟨g, 1, none⟩)) (v := .bool true) (by kernel_rfl) (M65.st1 2 rfl 1 rfl 4 rfl (by kernel_rfl) rfl) ?_))))
       intro w67 M68 hk69 shk69
       refine SL.nil ?_
       obtain ⟨b1, s1x, hvar⟩ : ∃ x y, rVar si = (x, y) := ⟨_, _, rfl⟩
       have hvs : s1x = stOf true rl := by
        unfold rVar at hvar; rw [hv8] at hvar; simp only [Prod.mk.injEq] at hvar; rw [← hvar.2]
        exact if_pos ph66
       have hb1 : b1 = (((v8 : Nat) : Int) == 1) := by unfold rVar at hvar; rw [hv8] at hvar; exact (Prod.mk.inj hvar).1.symm
       have M70 := M68.rdClose 2 rfl rhr rhf hvs
       refine SC.next ?_
       obtain ⟨G71, hG72⟩ : ∃ G : Nat → Prop, G = GK w67 ([rw' a i c 97 3 (xs.flatMap Prm.cells), bx g1 #[.int .i64 v1, .string v2, .int .i64 v3.mod, .int .i64 v3.idx, .int .u32 v6, .slice a i c] 42, rdR w0 g s1x]) [0, 2] := ⟨_, rfl⟩
       refine SC.tail G71 [([0, 1, 2, 3, 4], 5), ([6], 7), ([], 8)] [9] 10 [9, 8, 7, 6, 5, 4, 3, 2, 1, 0] (by kernel_rfl) (by kernel_rfl) (by kernel_rfl) (PanOk.block (PanOk.seq pn58)) ?_
       intro w73 hb74
       have M75 := M70.call hb74
       have acc76 : Ke G71 w67 w73 := Ke.below _ hb74
       refine ST.step (SU.run (d := 44) (v := .pointer (some ⟨g1, 5, none⟩)) (fun y hy => by kernel_rfl) (SU.load (d := 45) (t := 40) (b := .pointer (some ⟨g1, 5, none⟩)) (v := .slice a i c) (by kernel_rfl) (fun y hy => ((Mem.alone M70 hG72 1 rfl (by decide) (Ke.trans acc76 hy)).ldCell 0 rfl (j := 5) (v := .slice a i c) rfl Try.underlying40 rfl)) (SU.run (d := 46) (v := .int .i64 v8) (fun y hy => by kernel_rfl) ?_)))
       rcases Bool.eq_false_or_eq_true (decide (((v8 : Nat) : Int) = (1 : Int))) with h77 | h77
       ·skip
        have ph77 : ((v8 : Nat) : Int) = (1 : Int) := of_decide_eq_true h77
        have eb1 : b1 = true := by rw [hb1, int_beq]; exact decide_eq_true ph77
        refine SU.bool (d := 47) (x := (((v8 : Nat) : Int) == (1 : Int))) (z := true) ((int_beq _ _).trans h77) (fun y hy => by kernel_rfl) (SU.run (d := 48) (v := .pointer (some ⟨g, 0, none⟩)) (fun y hy => by kernel_rfl) (SU.go ?_))
        obtain ⟨v9, s9, hv9⟩ : ∃ x y, rRef s1x = (x, y) := ⟨_, _, rfl⟩
        refine SL.call (d := 49) (f := 69) (vs := [.pointer (some ⟨g, 0, none⟩)]) (by kernel_rfl) (by kernel_rfl) (by have := rdref_walk (HR.now M75 2 rfl); rw [hv9] at this; exact this) ?_
        rintro e w78 ⟨rfl, hR, hk⟩
        refine ⟨_, rfl, ?_⟩
        have M80 := M75.rdr 2 rfl hR hk
        have ke81 : Ke G71 _ _ := Ke.mono hk (fun i _ e => GK.own hG72 2 (by decide) rfl e)
        have acc82 := Ke.trans acc76 ke81
        refine SL.nil (ST.back ke81 (ST.step (SU.build (d := 50) (t := 97) (ps := [(0, .bool true), (1, .agg #[.int .i64 v9.mod, .int .i64 v9.idx])]) (cs := #[.bool true, .int .i64 v9.mod, .int .i64 v9.idx]) (by kernel_rfl) (by kernel_rfl) (SU.go (SL.buildSliceM (d := 51) (t := 40) (e := 97) (len := 1) (size := 3) (z := .agg #[.bool false, .int .i64 0, .int .i64 0]) (ps := [(0, .agg #[.bool true, .int .i64 v9.mod, .int .i64 v9.idx])]) (cs := #[.bool true, .int .i64 v9.mod, .int .i64 v9.idx]) M80 (by kernel_rfl) Try.underlying40 (by kernel_rfl) rfl rfl (by kernel_rfl) ?_)))))
        intro g83 w84 hb85 ⟨bg83, lg83⟩ M86
        have ke87 : Ke G71 _ _ := Ke.below _ hb85
        have ng83 : G71 g83 := GK.new hG72 (Nat.le_trans (Ke.size acc82) bg83)
        have acc88 := Ke.trans acc82 ke87
        refine SL.nil (ST.back ke87 (ST.step (SU.go (SL.appendM (d := 52) (ts := [40, 40]) (ty := 40) (vs := [.slice a i c, .slice (some ⟨g83, 0, none⟩) 1 1]) (k' := i + 1) (by kernel_rfl) (Mem.append (m := 1) (news := [.bool true, .int .i64 v9.mod, .int .i64 v9.idx]) M86 1 rfl (ET.of Try.underlying40 (by kernel_rfl) (by decide) (by decide) : ET Try.prog 40 97 (.agg #[.bool false, .int .i64 0, .int .i64 0]) 3 24) (rd_box M86 0 rfl (by kernel_rfl) rfl) rfl (by intro u hu; simp only [List.mem_cons, List.not_mem_nil, or_false] at hu; rcases hu with rfl | rfl | rfl <;> rfl) (by omega) (by omega) (by omega)) ?_))))
        intro a89 c90 w91 M92 hk93
        have ke94 : Ke G71 _ _ := Ke.mono hk93 (fun i _ e => GK.own hG72 0 (by decide) rfl e)
        have acc95 := Ke.trans acc88 ke94
        refine SL.nil (ST.back ke94 (ST.last (SU.run (d := 53) (v := .pointer (some ⟨g1, 5, none⟩)) (fun y hy => by kernel_rfl) (SU.go (SL.storeM (t := 40) (a := .pointer (some ⟨g1, 5, none⟩)) (v := .slice a89 (i + 1) c90) (by kernel_rfl) (M92.st1 2 rfl 5 rfl 40 rfl (by kernel_rfl) rfl) ?_)))))
        intro w96 M97 hk98 shk98
        refine SL.nil (ST.done (SQ.blockNormal (SC.next (SC.region [0, 1] (by kernel_rfl) (by kernel_rfl) (SL.int (d := 54) (q := .i64) (x := IntKind.wrap .i64 (((i : Nat) : Int) + (1 : Int))) (y := ((i + 1 : Nat) : Int)) (wr64 (by omega) (by omega) (by omega)) (by kernel_rfl) (SL.run (d := 29) (v := .int .i64 ((i + 1 : Nat) : Int)) (by kernel_rfl) ?_))))))
        refine SL.nil ?_
        have M99 := M97.keep [1, 2, 3] rfl (L' := [rw' a89 (i + 1) c90 97 3 ((xs.flatMap Prm.cells) ++ [.bool true, .int .i64 v9.mod, .int .i64 v9.idx]), bx g1 #[.int .i64 v1, .string v2, .int .i64 v3.mod, .int .i64 v3.idx, .int .u32 v6, .slice a89 (i + 1) c90] 42, rdR w0 g s9]) rfl
        have e1 : rPrm si = ((⟨b1, v9⟩ : Prm), s9) := by unfold rPrm; rw [hvar]; dsimp only; rw [hv9]
        have ex : (xs.flatMap Prm.cells) ++ [.bool true, .int .i64 v9.mod, .int .i64 v9.idx] = (xs ++ [(⟨b1, v9⟩ : Prm)]).flatMap Prm.cells := by rw [List.flatMap_append, eb1]; rfl
        rw [ex] at M99
        exact ag56 ⟨i + 1, a89, c90, xs ++ [(⟨b1, v9⟩ : Prm)], s9⟩ (by kernel_rfl) ⟨M99, by rw [List.length_append, hlen]; rfl, by omega, rLoop_snoc _ _ _ hloop e1⟩ (by omega)
       ·skip
        have ph77 : ¬ (((v8 : Nat) : Int) = (1 : Int)) := of_decide_eq_false h77
        have eb1 : b1 = false := by rw [hb1, int_beq]; exact decide_eq_false ph77
        refine SU.bool (d := 47) (x := (((v8 : Nat) : Int) == (1 : Int))) (z := false) ((int_beq _ _).trans h77) (fun y hy => by kernel_rfl) (SU.run (d := 48) (v := .pointer (some ⟨g, 0, none⟩)) (fun y hy => by kernel_rfl) (SU.go ?_))
        obtain ⟨v10, s10, hv10⟩ : ∃ x y, rRef s1x = (x, y) := ⟨_, _, rfl⟩
        refine SL.call (d := 49) (f := 69) (vs := [.pointer (some ⟨g, 0, none⟩)]) (by kernel_rfl) (by kernel_rfl) (by have := rdref_walk (HR.now M75 2 rfl); rw [hv10] at this; exact this) ?_
        rintro e w100 ⟨rfl, hR, hk⟩
        refine ⟨_, rfl, ?_⟩
        have M102 := M75.rdr 2 rfl hR hk
        have ke103 : Ke G71 _ _ := Ke.mono hk (fun i _ e => GK.own hG72 2 (by decide) rfl e)
        have acc104 := Ke.trans acc76 ke103
        refine SL.nil (ST.back ke103 (ST.step (SU.build (d := 50) (t := 97) (ps := [(0, .bool false), (1, .agg #[.int .i64 v10.mod, .int .i64 v10.idx])]) (cs := #[.bool false, .int .i64 v10.mod, .int .i64 v10.idx]) (by kernel_rfl) (by kernel_rfl) (SU.go (SL.buildSliceM (d := 51) (t := 40) (e := 97) (len := 1) (size := 3) (z := .agg #[.bool false, .int .i64 0, .int .i64 0]) (ps := [(0, .agg #[.bool false, .int .i64 v10.mod, .int .i64 v10.idx])]) (cs := #[.bool false, .int .i64 v10.mod, .int .i64 v10.idx]) M102 (by kernel_rfl) Try.underlying40 (by kernel_rfl) rfl rfl (by kernel_rfl) ?_)))))
        intro g105 w106 hb107 ⟨bg105, lg105⟩ M108
        have ke109 : Ke G71 _ _ := Ke.below _ hb107
        have ng105 : G71 g105 := GK.new hG72 (Nat.le_trans (Ke.size acc104) bg105)
        have acc110 := Ke.trans acc104 ke109
        refine SL.nil (ST.back ke109 (ST.step (SU.go (SL.appendM (d := 52) (ts := [40, 40]) (ty := 40) (vs := [.slice a i c, .slice (some ⟨g105, 0, none⟩) 1 1]) (k' := i + 1) (by kernel_rfl) (Mem.append (m := 1) (news := [.bool false, .int .i64 v10.mod, .int .i64 v10.idx]) M108 1 rfl (ET.of Try.underlying40 (by kernel_rfl) (by decide) (by decide) : ET Try.prog 40 97 (.agg #[.bool false, .int .i64 0, .int .i64 0]) 3 24) (rd_box M108 0 rfl (by kernel_rfl) rfl) rfl (by intro u hu; simp only [List.mem_cons, List.not_mem_nil, or_false] at hu; rcases hu with rfl | rfl | rfl <;> rfl) (by omega) (by omega) (by omega)) ?_))))
        intro a111 c112 w113 M114 hk115
        have ke116 : Ke G71 _ _ := Ke.mono hk115 (fun i _ e => GK.own hG72 0 (by decide) rfl e)
        have acc117 := Ke.trans acc110 ke116
        refine SL.nil (ST.back ke116 (ST.last (SU.run (d := 53) (v := .pointer (some ⟨g1, 5, none⟩)) (fun y hy => by kernel_rfl) (SU.go (SL.storeM (t := 40) (a := .pointer (some ⟨g1, 5, none⟩)) (v := .slice a111 (i + 1) c112) (by kernel_rfl) (M114.st1 2 rfl 5 rfl 40 rfl (by kernel_rfl) rfl) ?_)))))
        intro w118 M119 hk120 shk120
        refine SL.nil (ST.done (SQ.blockNormal (SC.next (SC.region [0, 1] (by kernel_rfl) (by kernel_rfl) (SL.int (d := 54) (q := .i64) (x := IntKind.wrap .i64 (((i : Nat) : Int) + (1 : Int))) (y := ((i + 1 : Nat) : Int)) (wr64 (by omega) (by omega) (by omega)) (by kernel_rfl) (SL.run (d := 29) (v := .int .i64 ((i + 1 : Nat) : Int)) (by kernel_rfl) ?_))))))
        refine SL.nil ?_
        have M121 := M119.keep [1, 2, 3] rfl (L' := [rw' a111 (i + 1) c112 97 3 ((xs.flatMap Prm.cells) ++ [.bool false, .int .i64 v10.mod, .int .i64 v10.idx]), bx g1 #[.int .i64 v1, .string v2, .int .i64 v3.mod, .int .i64 v3.idx, .int .u32 v6, .slice a111 (i + 1) c112] 42, rdR w0 g s10]) rfl
        have e1 : rPrm si = ((⟨b1, v10⟩ : Prm), s10) := by unfold rPrm; rw [hvar]; dsimp only; rw [hv10]
        have ex : (xs.flatMap Prm.cells) ++ [.bool false, .int .i64 v10.mod, .int .i64 v10.idx] = (xs ++ [(⟨b1, v10⟩ : Prm)]).flatMap Prm.cells := by rw [List.flatMap_append, eb1]; rfl
        rw [ex] at M121
        exact ag56 ⟨i + 1, a111, c112, xs ++ [(⟨b1, v10⟩ : Prm)], s10⟩ (by kernel_rfl) ⟨M121, by rw [List.length_append, hlen]; rfl, by omega, rLoop_snoc _ _ _ hloop e1⟩ (by omega)
      ·skip
       have ph66 : ¬ ((1 : Int) < ((v8 : Nat) : Int)) := of_decide_eq_false h66
       refine SL.bool (d := 40) (x := (decide ((1 : Int) < ((v8 : Nat) : Int)))) (y := false) h66 (by kernel_rfl) (SL.pick (d := 41) (v := .bool false) (by kernel_rfl) (SL.run (d := 42) (v := .pointer (some ⟨g, 0, none⟩)) (by kernel_rfl) (SL.run (d := 43) (v := .pointer (some ⟨g, 1, none⟩)) (by kernel_rfl) (SL.storeM (t := 4) (a := .pointer (some ⟨g, 1, none⟩)) (v := .bool false) (by kernel_rfl) (M65.st1 2 rfl 1 rfl 4 rfl (by kernel_rfl) rfl) ?_))))
       intro w122 M123 hk124 shk124
       refine SL.nil ?_
       obtain ⟨b1, s1x, hvar⟩ : ∃ x y, rVar si = (x, y) := ⟨_, _, rfl⟩
       have hvs : s1x = stOf false rl := by
        unfold rVar at hvar; rw [hv8] at hvar; simp only [Prod.mk.injEq] at hvar; rw [← hvar.2]
        rw [if_neg ph66]; exact rhs
       have hb1 : b1 = (((v8 : Nat) : Int) == 1) := by unfold rVar at hvar; rw [hv8] at hvar; exact (Prod.mk.inj hvar).1.symm
       have M125 := M123.rdClose 2 rfl rhr rhf hvs
       refine SC.next ?_
       obtain ⟨G126, hG127⟩ : ∃ G : Nat → Prop, G = GK w122 ([rw' a i c 97 3 (xs.flatMap Prm.cells), bx g1 #[.int .i64 v1, .string v2, .int .i64 v3.mod, .int .i64 v3.idx, .int .u32 v6, .slice a i c] 42, rdR w0 g s1x]) [0, 2] := ⟨_, rfl⟩
       refine SC.tail G126 [([0, 1, 2, 3, 4], 5), ([6], 7), ([], 8)] [9] 10 [9, 8, 7, 6, 5, 4, 3, 2, 1, 0] (by kernel_rfl) (by kernel_rfl) (by kernel_rfl) (PanOk.block (PanOk.seq pn58)) ?_
       intro w128 hb129
       have M130 := M125.call hb129
       have acc131 : Ke G126 w122 w128 := Ke.below _ hb129
       refine ST.step (SU.run (d := 44) (v := .pointer (some ⟨g1, 5, none⟩)) (fun y hy => by kernel_rfl) (SU.load (d := 45) (t := 40) (b := .pointer (some ⟨g1, 5, none⟩)) (v := .slice a i c) (by kernel_rfl) (fun y hy => ((Mem.alone M125 hG127 1 rfl (by decide) (Ke.trans acc131 hy)).ldCell 0 rfl (j := 5) (v := .slice a i c) rfl Try.underlying40 rfl)) (SU.run (d := 46) (v := .int .i64 v8) (fun y hy => by kernel_rfl) ?_)))
       rcases Bool.eq_false_or_eq_true (decide (((v8 : Nat) : Int) = (1 : Int))) with h132 | h132
       ·skip
        have ph132 : ((v8 : Nat) : Int) = (1 : Int) := of_decide_eq_true h132
        have eb1 : b1 = true := by rw [hb1, int_beq]; exact decide_eq_true ph132
        refine SU.bool (d := 47) (x := (((v8 : Nat) : Int) == (1 : Int))) (z := true) ((int_beq _ _).trans h132) (fun y hy => by kernel_rfl) (SU.run (d := 48) (v := .pointer (some ⟨g, 0, none⟩)) (fun y hy => by kernel_rfl) (SU.go ?_))
        obtain ⟨v11, s11, hv11⟩ : ∃ x y, rRef s1x = (x, y) := ⟨_, _, rfl⟩
        refine SL.call (d := 49) (f := 69) (vs := [.pointer (some ⟨g, 0, none⟩)]) (by kernel_rfl) (by kernel_rfl) (by have := rdref_walk (HR.now M130 2 rfl); rw [hv11] at this; exact this) ?_
        rintro e w133 ⟨rfl, hR, hk⟩
        refine ⟨_, rfl, ?_⟩
        have M135 := M130.rdr 2 rfl hR hk
        have ke136 : Ke G126 _ _ := Ke.mono hk (fun i _ e => GK.own hG127 2 (by decide) rfl e)
        have acc137 := Ke.trans acc131 ke136
        refine SL.nil (ST.back ke136 (ST.step (SU.build (d := 50) (t := 97) (ps := [(0, .bool true), (1, .agg #[.int .i64 v11.mod, .int .i64 v11.idx])]) (cs := #[.bool true, .int .i64 v11.mod, .int .i64 v11.idx]) (by kernel_rfl) (by kernel_rfl) (SU.go (SL.buildSliceM (d := 51) (t := 40) (e := 97) (len := 1) (size := 3) (z := .agg #[.bool false, .int .i64 0, .int .i64 0]) (ps := [(0, .agg #[.bool true, .int .i64 v11.mod, .int .i64 v11.idx])]) (cs := #[.bool true, .int .i64 v11.mod, .int .i64 v11.idx]) M135 (by kernel_rfl) Try.underlying40 (by kernel_rfl) rfl rfl (by kernel_rfl) ?_)))))
        intro g138 w139 hb140 ⟨bg138, lg138⟩ M141
        have ke142 : Ke G126 _ _ := Ke.below _ hb140
        have ng138 : G126 g138 := GK.new hG127 (Nat.le_trans (Ke.size acc137) bg138)
        have acc143 := Ke.trans acc137 ke142
        refine SL.nil (ST.back ke142 (ST.step (SU.go (SL.appendM (d := 52) (ts := [40, 40]) (ty := 40) (vs := [.slice a i c, .slice (some ⟨g138, 0, none⟩) 1 1]) (k' := i + 1) (by kernel_rfl) (Mem.append (m := 1) (news := [.bool true, .int .i64 v11.mod, .int .i64 v11.idx]) M141 1 rfl (ET.of Try.underlying40 (by kernel_rfl) (by decide) (by decide) : ET Try.prog 40 97 (.agg #[.bool false, .int .i64 0, .int .i64 0]) 3 24) (rd_box M141 0 rfl (by kernel_rfl) rfl) rfl (by intro u hu; simp only [List.mem_cons, List.not_mem_nil, or_false] at hu; rcases hu with rfl | rfl | rfl <;> rfl) (by omega) (by omega) (by omega)) ?_))))
        intro a144 c145 w146 M147 hk148
        have ke149 : Ke G126 _ _ := Ke.mono hk148 (fun i _ e => GK.own hG127 0 (by decide) rfl e)
        have acc150 := Ke.trans acc143 ke149
        refine SL.nil (ST.back ke149 (ST.last (SU.run (d := 53) (v := .pointer (some ⟨g1, 5, none⟩)) (fun y hy => by kernel_rfl) (SU.go (SL.storeM (t := 40) (a := .pointer (some ⟨g1, 5, none⟩)) (v := .slice a144 (i + 1) c145) (by kernel_rfl) (M147.st1 2 rfl 5 rfl 40 rfl (by kernel_rfl) rfl) ?_)))))
        intro w151 M152 hk153 shk153
        refine SL.nil (ST.done (SQ.blockNormal (SC.next (SC.region [0, 1] (by kernel_rfl) (by kernel_rfl) (SL.int (d := 54) (q := .i64) (x := IntKind.wrap .i64 (((i : Nat) : Int) + (1 : Int))) (y := ((i + 1 : Nat) : Int)) (wr64 (by omega) (by omega) (by omega)) (by kernel_rfl) (SL.run (d := 29) (v := .int .i64 ((i + 1 : Nat) : Int)) (by kernel_rfl) ?_))))))
        refine SL.nil ?_
        have M154 := M152.keep [1, 2, 3] rfl (L' := [rw' a144 (i + 1) c145 97 3 ((xs.flatMap Prm.cells) ++ [.bool true, .int .i64 v11.mod, .int .i64 v11.idx]), bx g1 #[.int .i64 v1, .string v2, .int .i64 v3.mod, .int .i64 v3.idx, .int .u32 v6, .slice a144 (i + 1) c145] 42, rdR w0 g s11]) rfl
        have e1 : rPrm si = ((⟨b1, v11⟩ : Prm), s11) := by unfold rPrm; rw [hvar]; dsimp only; rw [hv11]
        have ex : (xs.flatMap Prm.cells) ++ [.bool true, .int .i64 v11.mod, .int .i64 v11.idx] = (xs ++ [(⟨b1, v11⟩ : Prm)]).flatMap Prm.cells := by rw [List.flatMap_append, eb1]; rfl
        rw [ex] at M154
        exact ag56 ⟨i + 1, a144, c145, xs ++ [(⟨b1, v11⟩ : Prm)], s11⟩ (by kernel_rfl) ⟨M154, by rw [List.length_append, hlen]; rfl, by omega, rLoop_snoc _ _ _ hloop e1⟩ (by omega)
       ·skip
        have ph132 : ¬ (((v8 : Nat) : Int) = (1 : Int)) := of_decide_eq_false h132
        have eb1 : b1 = false := by rw [hb1, int_beq]; exact decide_eq_false ph132
        refine SU.bool (d := 47) (x := (((v8 : Nat) : Int) == (1 : Int))) (z := false) ((int_beq _ _).trans h132) (fun y hy => by kernel_rfl) (SU.run (d := 48) (v := .pointer (some ⟨g, 0, none⟩)) (fun y hy => by kernel_rfl) (SU.go ?_))
        obtain ⟨v12, s12, hv12⟩ : ∃ x y, rRef s1x = (x, y) := ⟨_, _, rfl⟩
        refine SL.call (d := 49) (f := 69) (vs := [.pointer (some ⟨g, 0, none⟩)]) (by kernel_rfl) (by kernel_rfl) (by have := rdref_walk (HR.now M130 2 rfl); rw [hv12] at this; exact this) ?_
        rintro e w155 ⟨rfl, hR, hk⟩
        refine ⟨_, rfl, ?_⟩
        have M157 := M130.rdr 2 rfl hR hk
        have ke158 : Ke G126 _ _ := Ke.mono hk (fun i _ e => GK.own hG127 2 (by decide) rfl e)
        have acc159 := Ke.trans acc131 ke158
        refine SL.nil (ST.back ke158 (ST.step (SU.build (d := 50) (t := 97) (ps := [(0, .bool false), (1, .agg #[.int .i64 v12.mod, .int .i64 v12.idx])]) (cs := #[.bool false, .int .i64 v12.mod, .int .i64 v12.idx]) (by kernel_rfl) (by kernel_rfl) (SU.go (SL.buildSliceM (d := 51) (t := 40) (e := 97) (len := 1) (size := 3) (z := .agg #[.bool false, .int .i64 0, .int .i64 0]) (ps := [(0, .agg #[.bool false, .int .i64 v12.mod, .int .i64 v12.idx])]) (cs := #[.bool false, .int .i64 v12.mod, .int .i64 v12.idx]) M157 (by kernel_rfl) Try.underlying40 (by kernel_rfl) rfl rfl (by kernel_rfl) ?_)))))
        intro g160 w161 hb162 ⟨bg160, lg160⟩ M163
        have ke164 : Ke G126 _ _ := Ke.below _ hb162
        have ng160 : G126 g160 := GK.new hG127 (Nat.le_trans (Ke.size acc159) bg160)
        have acc165 := Ke.trans acc159 ke164
        refine SL.nil (ST.back ke164 (ST.step (SU.go (SL.appendM (d := 52) (ts := [40, 40]) (ty := 40) (vs := [.slice a i c, .slice (some ⟨g160, 0, none⟩) 1 1]) (k' := i + 1) (by kernel_rfl) (Mem.append (m := 1) (news := [.bool false, .int .i64 v12.mod, .int .i64 v12.idx]) M163 1 rfl (ET.of Try.underlying40 (by kernel_rfl) (by decide) (by decide) : ET Try.prog 40 97 (.agg #[.bool false, .int .i64 0, .int .i64 0]) 3 24) (rd_box M163 0 rfl (by kernel_rfl) rfl) rfl (by intro u hu; simp only [List.mem_cons, List.not_mem_nil, or_false] at hu; rcases hu with rfl | rfl | rfl <;> rfl) (by omega) (by omega) (by omega)) ?_))))
        intro a166 c167 w168 M169 hk170
        have ke171 : Ke G126 _ _ := Ke.mono hk170 (fun i _ e => GK.own hG127 0 (by decide) rfl e)
        have acc172 := Ke.trans acc165 ke171
        refine SL.nil (ST.back ke171 (ST.last (SU.run (d := 53) (v := .pointer (some ⟨g1, 5, none⟩)) (fun y hy => by kernel_rfl) (SU.go (SL.storeM (t := 40) (a := .pointer (some ⟨g1, 5, none⟩)) (v := .slice a166 (i + 1) c167) (by kernel_rfl) (M169.st1 2 rfl 5 rfl 40 rfl (by kernel_rfl) rfl) ?_)))))
        intro w173 M174 hk175 shk175
        refine SL.nil (ST.done (SQ.blockNormal (SC.next (SC.region [0, 1] (by kernel_rfl) (by kernel_rfl) (SL.int (d := 54) (q := .i64) (x := IntKind.wrap .i64 (((i : Nat) : Int) + (1 : Int))) (y := ((i + 1 : Nat) : Int)) (wr64 (by omega) (by omega) (by omega)) (by kernel_rfl) (SL.run (d := 29) (v := .int .i64 ((i + 1 : Nat) : Int)) (by kernel_rfl) ?_))))))
        refine SL.nil ?_
        have M176 := M174.keep [1, 2, 3] rfl (L' := [rw' a166 (i + 1) c167 97 3 ((xs.flatMap Prm.cells) ++ [.bool false, .int .i64 v12.mod, .int .i64 v12.idx]), bx g1 #[.int .i64 v1, .string v2, .int .i64 v3.mod, .int .i64 v3.idx, .int .u32 v6, .slice a166 (i + 1) c167] 42, rdR w0 g s12]) rfl
        have e1 : rPrm si = ((⟨b1, v12⟩ : Prm), s12) := by unfold rPrm; rw [hvar]; dsimp only; rw [hv12]
        have ex : (xs.flatMap Prm.cells) ++ [.bool false, .int .i64 v12.mod, .int .i64 v12.idx] = (xs ++ [(⟨b1, v12⟩ : Prm)]).flatMap Prm.cells := by rw [List.flatMap_append, eb1]; rfl
        rw [ex] at M176
        exact ag56 ⟨i + 1, a166, c167, xs ++ [(⟨b1, v12⟩ : Prm)], s12⟩ (by kernel_rfl) ⟨M176, by rw [List.length_append, hlen]; rfl, by omega, rLoop_snoc _ _ _ hloop e1⟩ (by omega)
     ·skip
      refine SL.offs [6, 7] (is := [8, 9, 10, 11]) rfl (by kernel_rfl) (SL.pick (d := 41) (v := .bool true) (by kernel_rfl) (SL.run (d := 42) (v := .pointer (some ⟨g, 0, none⟩)) (by kernel_rfl) (SL.run (d := 43) (v := .pointer (some ⟨g, 1, none⟩)) (by kernel_rfl) (SL.storeM (t := 4) (a := .pointer (some ⟨g, 1, none⟩)) (v := .bool true) (by kernel_rfl) (M65.st1 2 rfl 1 rfl 4 rfl (by kernel_rfl) rfl) ?_))))
      intro w177 M178 hk179 shk179
      refine SL.nil ?_
      obtain ⟨b1, s1x, hvar⟩ : ∃ x y, rVar si = (x, y) := ⟨_, _, rfl⟩
      have hvs : s1x = stOf true rl := by
       unfold rVar at hvar; rw [hv8] at hvar; simp only [Prod.mk.injEq] at hvar; rw [← hvar.2]
       split
       ·rfl
       ·exact rhs
      have hb1 : b1 = (((v8 : Nat) : Int) == 1) := by unfold rVar at hvar; rw [hv8] at hvar; exact (Prod.mk.inj hvar).1.symm
      have M180 := M178.rdClose 2 rfl rhr rhf hvs
      refine SC.next ?_
      obtain ⟨G181, hG182⟩ : ∃ G : Nat → Prop, G = GK w177 ([rw' a i c 97 3 (xs.flatMap Prm.cells), bx g1 #[.int .i64 v1, .string v2, .int .i64 v3.mod, .int .i64 v3.idx, .int .u32 v6, .slice a i c] 42, rdR w0 g s1x]) [0, 2] := ⟨_, rfl⟩
      refine SC.tail G181 [([0, 1, 2, 3, 4], 5), ([6], 7), ([], 8)] [9] 10 [9, 8, 7, 6, 5, 4, 3, 2, 1, 0] (by kernel_rfl) (by kernel_rfl) (by kernel_rfl) (PanOk.block (PanOk.seq pn58)) ?_
      intro w183 hb184
      have M185 := M180.call hb184
      have acc186 : Ke G181 w177 w183 := Ke.below _ hb184
      refine ST.step (SU.run (d := 44) (v := .pointer (some ⟨g1, 5, none⟩)) (fun y hy => by kernel_rfl) (SU.load (d := 45) (t := 40) (b := .pointer (some ⟨g1, 5, none⟩)) (v := .slice a i c) (by kernel_rfl) (fun y hy => ((Mem.alone M180 hG182 1 rfl (by decide) (Ke.trans acc186 hy)).ldCell 0 rfl (j := 5) (v := .slice a i c) rfl Try.underlying40 rfl)) (SU.run (d := 46) (v := .int .i64 v8) (fun y hy => by kernel_rfl) ?_)))
      rcases Bool.eq_false_or_eq_true (decide (((v8 : Nat) : Int) = (1 : Int))) with h187 | h187
      ·skip
       have ph187 : ((v8 : Nat) : Int) = (1 : Int) := of_decide_eq_true h187
       have eb1 : b1 = true := by rw [hb1, int_beq]; exact decide_eq_true ph187
       refine SU.bool (d := 47) (x := (((v8 : Nat) : Int) == (1 : Int))) (z := true) ((int_beq _ _).trans h187) (fun y hy => by kernel_rfl) (SU.run (d := 48) (v := .pointer (some ⟨g, 0, none⟩)) (fun y hy => by kernel_rfl) (SU.go ?_))
       obtain ⟨v13, s13, hv13⟩ : ∃ x y, rRef s1x = (x, y) := ⟨_, _, rfl⟩
       refine SL.call (d := 49) (f := 69) (vs := [.pointer (some ⟨g, 0, none⟩)]) (by kernel_rfl) (by kernel_rfl) (by have := rdref_walk (HR.now M185 2 rfl); rw [hv13] at this; exact this) ?_
       rintro e w188 ⟨rfl, hR, hk⟩
       refine ⟨_, rfl, ?_⟩
       have M190 := M185.rdr 2 rfl hR hk
       have ke191 : Ke G181 _ _ := Ke.mono hk (fun i _ e => GK.own hG182 2 (by decide) rfl e)
       have acc192 := Ke.trans acc186 ke191
       refine SL.nil (ST.back ke191 (ST.step (SU.build (d := 50) (t := 97) (ps := [(0, .bool true), (1, .agg #[.int .i64 v13.mod, .int .i64 v13.idx])]) (cs := #[.bool true, .int .i64 v13.mod, .int .i64 v13.idx]) (by kernel_rfl) (by kernel_rfl) (SU.go (SL.buildSliceM (d := 51) (t := 40) (e := 97) (len := 1) (size := 3) (z := .agg #[.bool false, .int .i64 0, .int .i64 0]) (ps := [(0, .agg #[.bool true, .int .i64 v13.mod, .int .i64 v13.idx])]) (cs := #[.bool true, .int .i64 v13.mod, .int .i64 v13.idx]) M190 (by kernel_rfl) Try.underlying40 (by kernel_rfl) rfl rfl (by kernel_rfl) ?_)))))
       intro g193 w194 hb195 ⟨bg193, lg193⟩ M196
       have ke197 : Ke G181 _ _ := Ke.below _ hb195
       have ng193 : G181 g193 := GK.new hG182 (Nat.le_trans (Ke.size acc192) bg193)
       have acc198 := Ke.trans acc192 ke197
       refine SL.nil (ST.back ke197 (ST.step (SU.go (SL.appendM (d := 52) (ts := [40, 40]) (ty := 40) (vs := [.slice a i c, .slice (some ⟨g193, 0, none⟩) 1 1]) (k' := i + 1) (by kernel_rfl) (Mem.append (m := 1) (news := [.bool true, .int .i64 v13.mod, .int .i64 v13.idx]) M196 1 rfl (ET.of Try.underlying40 (by kernel_rfl) (by decide) (by decide) : ET Try.prog 40 97 (.agg #[.bool false, .int .i64 0, .int .i64 0]) 3 24) (rd_box M196 0 rfl (by kernel_rfl) rfl) rfl (by intro u hu; simp only [List.mem_cons, List.not_mem_nil, or_false] at hu; rcases hu with rfl | rfl | rfl <;> rfl) (by omega) (by omega) (by omega)) ?_))))
       intro a199 c200 w201 M202 hk203
       have ke204 : Ke G181 _ _ := Ke.mono hk203 (fun i _ e => GK.own hG182 0 (by decide) rfl e)
       have acc205 := Ke.trans acc198 ke204
       refine SL.nil (ST.back ke204 (ST.last (SU.run (d := 53) (v := .pointer (some ⟨g1, 5, none⟩)) (fun y hy => by kernel_rfl) (SU.go (SL.storeM (t := 40) (a := .pointer (some ⟨g1, 5, none⟩)) (v := .slice a199 (i + 1) c200) (by kernel_rfl) (M202.st1 2 rfl 5 rfl 40 rfl (by kernel_rfl) rfl) ?_)))))
       intro w206 M207 hk208 shk208
       refine SL.nil (ST.done (SQ.blockNormal (SC.next (SC.region [0, 1] (by kernel_rfl) (by kernel_rfl) (SL.int (d := 54) (q := .i64) (x := IntKind.wrap .i64 (((i : Nat) : Int) + (1 : Int))) (y := ((i + 1 : Nat) : Int)) (wr64 (by omega) (by omega) (by omega)) (by kernel_rfl) (SL.run (d := 29) (v := .int .i64 ((i + 1 : Nat) : Int)) (by kernel_rfl) ?_))))))
       refine SL.nil ?_
       have M209 := M207.keep [1, 2, 3] rfl (L' := [rw' a199 (i + 1) c200 97 3 ((xs.flatMap Prm.cells) ++ [.bool true, .int .i64 v13.mod, .int .i64 v13.idx]), bx g1 #[.int .i64 v1, .string v2, .int .i64 v3.mod, .int .i64 v3.idx, .int .u32 v6, .slice a199 (i + 1) c200] 42, rdR w0 g s13]) rfl
       have e1 : rPrm si = ((⟨b1, v13⟩ : Prm), s13) := by unfold rPrm; rw [hvar]; dsimp only; rw [hv13]
       have ex : (xs.flatMap Prm.cells) ++ [.bool true, .int .i64 v13.mod, .int .i64 v13.idx] = (xs ++ [(⟨b1, v13⟩ : Prm)]).flatMap Prm.cells := by rw [List.flatMap_append, eb1]; rfl
       rw [ex] at M209
       exact ag56 ⟨i + 1, a199, c200, xs ++ [(⟨b1, v13⟩ : Prm)], s13⟩ (by kernel_rfl) ⟨M209, by rw [List.length_append, hlen]; rfl, by omega, rLoop_snoc _ _ _ hloop e1⟩ (by omega)
      ·skip
       have ph187 : ¬ (((v8 : Nat) : Int) = (1 : Int)) := of_decide_eq_false h187
       have eb1 : b1 = false := by rw [hb1, int_beq]; exact decide_eq_false ph187
       refine SU.bool (d := 47) (x := (((v8 : Nat) : Int) == (1 : Int))) (z := false) ((int_beq _ _).trans h187) (fun y hy => by kernel_rfl) (SU.run (d := 48) (v := .pointer (some ⟨g, 0, none⟩)) (fun y hy => by kernel_rfl) (SU.go ?_))
       obtain ⟨v14, s14, hv14⟩ : ∃ x y, rRef s1x = (x, y) := ⟨_, _, rfl⟩
       refine SL.call (d := 49) (f := 69) (vs := [.pointer (some ⟨g, 0, none⟩)]) (by kernel_rfl) (by kernel_rfl) (by have := rdref_walk (HR.now M185 2 rfl); rw [hv14] at this; exact this) ?_
       rintro e w210 ⟨rfl, hR, hk⟩
       refine ⟨_, rfl, ?_⟩
       have M212 := M185.rdr 2 rfl hR hk
       have ke213 : Ke G181 _ _ := Ke.mono hk (fun i _ e => GK.own hG182 2 (by decide) rfl e)
       have acc214 := Ke.trans acc186 ke213
       refine SL.nil (ST.back ke213 (ST.step (SU.build (d := 50) (t := 97) (ps := [(0, .bool false), (1, .agg #[.int .i64 v14.mod, .int .i64 v14.idx])]) (cs := #[.bool false, .int .i64 v14.mod, .int .i64 v14.idx]) (by kernel_rfl) (by kernel_rfl) (SU.go (SL.buildSliceM (d := 51) (t := 40) (e := 97) (len := 1) (size := 3) (z := .agg #[.bool false, .int .i64 0, .int .i64 0]) (ps := [(0, .agg #[.bool false, .int .i64 v14.mod, .int .i64 v14.idx])]) (cs := #[.bool false, .int .i64 v14.mod, .int .i64 v14.idx]) M212 (by kernel_rfl) Try.underlying40 (by kernel_rfl) rfl rfl (by kernel_rfl) ?_)))))
       intro g215 w216 hb217 ⟨bg215, lg215⟩ M218
       have ke219 : Ke G181 _ _ := Ke.below _ hb217
       have ng215 : G181 g215 := GK.new hG182 (Nat.le_trans (Ke.size acc214) bg215)
       have acc220 := Ke.trans acc214 ke219
       refine SL.nil (ST.back ke219 (ST.step (SU.go (SL.appendM (d := 52) (ts := [40, 40]) (ty := 40) (vs := [.slice a i c, .slice (some ⟨g215, 0, none⟩) 1 1]) (k' := i + 1) (by kernel_rfl) (Mem.append (m := 1) (news := [.bool false, .int .i64 v14.mod, .int .i64 v14.idx]) M218 1 rfl (ET.of Try.underlying40 (by kernel_rfl) (by decide) (by decide) : ET Try.prog 40 97 (.agg #[.bool false, .int .i64 0, .int .i64 0]) 3 24) (rd_box M218 0 rfl (by kernel_rfl) rfl) rfl (by intro u hu; simp only [List.mem_cons, List.not_mem_nil, or_false] at hu; rcases hu with rfl | rfl | rfl <;> rfl) (by omega) (by omega) (by omega)) ?_))))
       intro a221 c222 w223 M224 hk225
       have ke226 : Ke G181 _ _ := Ke.mono hk225 (fun i _ e => GK.own hG182 0 (by decide) rfl e)
       have acc227 := Ke.trans acc220 ke226
       refine SL.nil (ST.back ke226 (ST.last (SU.run (d := 53) (v := .pointer (some ⟨g1, 5, none⟩)) (fun y hy => by kernel_rfl) (SU.go (SL.storeM (t := 40) (a := .pointer (some ⟨g1, 5, none⟩)) (v := .slice a221 (i + 1) c222) (by kernel_rfl) (M224.st1 2 rfl 5 rfl 40 rfl (by kernel_rfl) rfl) ?_)))))
       intro w228 M229 hk230 shk230
       refine SL.nil (ST.done (SQ.blockNormal (SC.next (SC.region [0, 1] (by kernel_rfl) (by kernel_rfl) (SL.int (d := 54) (q := .i64) (x := IntKind.wrap .i64 (((i : Nat) : Int) + (1 : Int))) (y := ((i + 1 : Nat) : Int)) (wr64 (by omega) (by omega) (by omega)) (by kernel_rfl) (SL.run (d := 29) (v := .int .i64 ((i + 1 : Nat) : Int)) (by kernel_rfl) ?_))))))
       refine SL.nil ?_
       have M231 := M229.keep [1, 2, 3] rfl (L' := [rw' a221 (i + 1) c222 97 3 ((xs.flatMap Prm.cells) ++ [.bool false, .int .i64 v14.mod, .int .i64 v14.idx]), bx g1 #[.int .i64 v1, .string v2, .int .i64 v3.mod, .int .i64 v3.idx, .int .u32 v6, .slice a221 (i + 1) c222] 42, rdR w0 g s14]) rfl
       have e1 : rPrm si = ((⟨b1, v14⟩ : Prm), s14) := by unfold rPrm; rw [hvar]; dsimp only; rw [hv14]
       have ex : (xs.flatMap Prm.cells) ++ [.bool false, .int .i64 v14.mod, .int .i64 v14.idx] = (xs ++ [(⟨b1, v14⟩ : Prm)]).flatMap Prm.cells := by rw [List.flatMap_append, eb1]; rfl
       rw [ex] at M231
       exact ag56 ⟨i + 1, a221, c222, xs ++ [(⟨b1, v14⟩ : Prm)], s14⟩ (by kernel_rfl) ⟨M231, by rw [List.length_append, hlen]; rfl, by omega, rLoop_snoc _ _ _ hloop e1⟩ (by omega)
    ·skip
     have ph61 : ¬ (((i : Nat) : Int) < ((v7 : Nat) : Int)) := of_decide_eq_false h61
     have hiv : i = v7 := by omega
     refine SL.bool (d := 30) (x := (decide (((i : Nat) : Int) < ((v7 : Nat) : Int)))) (y := false) h61 (by kernel_rfl) (SL.nil (SC.next (SC.seq (by kernel_rfl) (SC.no (by kernel_rfl) (SC.exit (i := 1) (by kernel_rfl) (SQ.seqExit (by nofun) ?_))))))
     refine ex57 (by nofun) (SQ.blockHere (SQ.blockNormal (SC.next (SC.seq (by kernel_rfl) (SC.region [0, 1] (by kernel_rfl) (by kernel_rfl) (SL.load (d := 55) (t := 42) (a := .pointer (some ⟨g1, 0, none⟩)) (v := .agg #[.int .i64 v1, .string v2, .int .i64 v3.mod, .int .i64 v3.idx, .int .u32 v6, .slice a i c]) (by kernel_rfl) (M60.ldBox 1 rfl Try.underlying42 rfl (by kernel_rfl)) ?_))))))
     refine SL.storeM (t := 42) (a := .pointer (some ⟨g1, 0, none⟩)) (v := .agg #[.int .i64 v1, .string v2, .int .i64 v3.mod, .int .i64 v3.idx, .int .u32 v6, .slice a i c]) (by kernel_rfl) (M60.stBox 1 rfl rfl (by kernel_rfl) rfl) ?_
     intro w232 M233 hk234 shk234
     refine SL.nil (SC.next (SC.ret (by kernel_rfl) ?_))
     refine SQ.retE (P := Try.prog) (v := .agg #[.int .i64 v1, .string v2, .int .i64 v3.mod, .int .i64 v3.idx, .int .u32 v6, .slice a i c]) (.inr rfl) (fun a ha => ?_) ?_
     ·exact res_c (by kernel_rfl) (ha.getD (t := 2) (v := .pointer (some ⟨g1, 0, none⟩)) (by kernel_rfl)) (M233.ldBox 1 rfl Try.underlying42 rfl (by kernel_rfl))
     have eh : rHead8 s = ((((v1 : Nat) : Int), v2, v3), s3) := by unfold rHead8; rw [hv1]; dsimp only; rw [hv2]; dsimp only; rw [hv3]
     have e1 : rObj8 s = (⟨((v1 : Nat) : Int), v2, v3, ((v6 : Nat) : Int), xs⟩, si) := by
      unfold rObj8; rw [eh]; dsimp only
      have e2 : rTail8 ((v1 : Nat) : Int) s3 = rProc s3 := by unfold rTail8; rw [if_neg (by rintro (h | h); exact pf1 h; exact pf3 h), if_pos pf4]
      rw [e2]; unfold rProc; rw [hv6]; dsimp only; unfold rMany; rw [hv7]; dsimp only; rw [Int.toNat_natCast, ← hiv, hloop]
     rw [e1]
     have hn : NewR we w232 (objR ⟨((v1 : Nat) : Int), v2, ⟨v3.mod, v3.idx⟩, ((v6 : Nat) : Int), ⟨a, c, xs⟩⟩) := by have := newAt (G := (· = g)) M233 0 2 rfl rfl (by decide) rfl; rw [← hlen] at this; exact this
     exact ⟨⟨((v1 : Nat) : Int), v2, ⟨v3.mod, v3.idx⟩, ((v6 : Nat) : Int), ⟨a, c, xs⟩⟩, by rw [← hlen]; rfl, rfl, hn, HR.now M233 2 rfl, M233.ke⟩
   ·skip
    have ph43 : ¬ (((v1 : Nat) : Int) = (4 : Int)) := of_decide_eq_false h43
    have pf4 := ph43
    refine SL.bool (d := 22) (x := (((v1 : Nat) : Int) == (4 : Int))) (y := false) ((int_beq _ _).trans h43) (by kernel_rfl) (SL.run (d := 21) (v := .bool false) (by kernel_rfl) (SL.nil (SC.next (SC.keep (l' := [(0, .pointer (some ⟨g, 0, none⟩)), (2, .pointer (some ⟨g1, 0, none⟩)), (21, .bool false)]) [0, 2, 21] (by kernel_rfl) (SC.no (by kernel_rfl) (SC.skip (by kernel_rfl) ?_))))))
    refine SQ.blockNormal (SC.next (SC.seq (by kernel_rfl) (SC.region [0, 1] (by kernel_rfl) (by kernel_rfl) (SL.load (d := 55) (t := 42) (a := .pointer (some ⟨g1, 0, none⟩)) (v := .agg #[.int .i64 v1, .string v2, .int .i64 v3.mod, .int .i64 v3.idx, .int .u32 0, .slice none 0 0]) (by kernel_rfl) (M21.ldBox 0 rfl Try.underlying42 rfl (by kernel_rfl)) (SL.storeM (t := 42) (a := .pointer (some ⟨g1, 0, none⟩)) (v := .agg #[.int .i64 v1, .string v2, .int .i64 v3.mod, .int .i64 v3.idx, .int .u32 0, .slice none 0 0]) (by kernel_rfl) (M21.stBox 0 rfl rfl (by kernel_rfl) rfl) ?_)))))
    intro w235 M236 hk237 shk237
    refine SL.nil (SC.next (SC.ret (by kernel_rfl) ?_))
    refine SQ.retE (P := Try.prog) (v := .agg #[.int .i64 v1, .string v2, .int .i64 v3.mod, .int .i64 v3.idx, .int .u32 0, .slice none 0 0]) (.inr rfl) (fun a ha => ?_) ?_
    ·exact res_c (by kernel_rfl) (ha.getD (t := 2) (v := .pointer (some ⟨g1, 0, none⟩)) (by kernel_rfl)) (M236.ldBox 0 rfl Try.underlying42 rfl (by kernel_rfl))
    have eh : rHead8 s = ((((v1 : Nat) : Int), v2, v3), s3) := by unfold rHead8; rw [hv1]; dsimp only; rw [hv2]; dsimp only; rw [hv3]
    have e1 : rObj8 s = (⟨((v1 : Nat) : Int), v2, v3, 0, []⟩, s3) := by
     unfold rObj8; rw [eh]; dsimp only
     have e2 : rTail8 ((v1 : Nat) : Int) s3 = rNone8 s3 := by unfold rTail8; rw [if_neg (by rintro (h | h); exact pf1 h; exact pf3 h), if_neg pf4]
     rw [e2]; rfl
    rw [e1]
    have hn : NewR we w235 (objR ⟨((v1 : Nat) : Int), v2, ⟨v3.mod, v3.idx⟩, 0, ⟨none, 0, []⟩⟩) := newNil we w235 _ _
    exact ⟨⟨((v1 : Nat) : Int), v2, ⟨v3.mod, v3.idx⟩, 0, ⟨none, 0, []⟩⟩, rfl, rfl, hn, HR.now M236 1 rfl, M236.ke⟩
end Go.Proofs.Ytfnibpkojhgflaa
