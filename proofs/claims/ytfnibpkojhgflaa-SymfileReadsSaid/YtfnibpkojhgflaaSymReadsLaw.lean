/- Walk: the law SymfileReads. Printed by bin/gen_sym8reads.py. -/
import Derived.Test.YtfnibpkojhgflaaSymRefOf
import Derived.Test.YtfnibpkojhgflaaFaceKnown
import Derived.Test.YtfnibpkojhgflaaFaceRLaw
import Derived.Test.YtfnibpkojhgflaaFaceOpen
namespace Go.Proofs.Ytfnibpkojhgflaa
set_option linter.unusedVariables false
set_option linter.unusedSimpArgs false
open Go.RowKit
theorem own_flat {w : World} {a : Option Addr} {n c size : Nat} {e : TypeId} {xs : List Value} (h : w.ownsRow 0 e size (.slice a n c) n xs) : a = none ∨ ∃ b o, a = some ⟨b, o, none⟩ := by
 rcases h.2 with ⟨h2, _⟩ | ⟨g, cap, cur, hv, _⟩
 ·simp only [Value.slice.injEq] at h2; exact .inl h2.1
 ·simp only [Value.slice.injEq] at hv; exact .inr ⟨g, 0, hv.1⟩
set_option maxHeartbeats 1000000 in
theorem readsLaw_walk (a : Option Addr) (c : Nat) (l : List Int) (w : World) (hr : RdI .u8 w a c l) : Calls Try.prog 5 #[.slice a l.length c] w fun e w' => e = .returned (.bool true) ∧ Below w.heap.size w w' := by
 have hlen := hr.len
 refine SC.enter (vs := [.slice a l.length c]) (n := 64) (l := [(0, .slice a l.length c)]) Try.func5 (by kernel_rfl) (by kernel_rfl) (by kernel_rfl) (by kernel_rfl) ?_
 have M0 := Mem.start w
 refine SC.seq (by kernel_rfl) (SC.region [0] (by kernel_rfl) (by kernel_rfl) (SL.run (d := 2) (v := .bool false) (by kernel_rfl) (SL.nil (SC.next (SC.seq (by kernel_rfl) (SC.seq (by kernel_rfl) ?_))))))
 refine SC.region [0, 1, 2] (by kernel_rfl) (by kernel_rfl) (SL.run (d := 10) (v := .slice a l.length c) (by kernel_rfl) (SL.builtin (d := 11) (b := .len) (ts := [46]) (ty := 3) (vs := [.slice a l.length c]) (v := .int .i64 ((l.length : Nat) : Int)) (by kernel_rfl) (fun k => run_len Try.underlying46 rfl k) ?_))
 rcases Bool.eq_false_or_eq_true (decide ((100000 : Int) < ((l.length : Nat) : Int))) with h1 | h1
 ·skip
  have ph1 : (100000 : Int) < ((l.length : Nat) : Int) := of_decide_eq_true h1
  refine SL.bool (d := 12) (x := (decide ((100000 : Int) < ((l.length : Nat) : Int)))) (y := true) h1 (by kernel_rfl) (SL.nil (SC.next (SC.yes (by kernel_rfl) (SC.seq (by kernel_rfl) (SC.region [0, 1] (by kernel_rfl) (by kernel_rfl) (SL.call (d := 13) (f := 11) (vs := []) (by kernel_rfl) (by kernel_rfl) (known_walk w) ?_))))))
  rintro e w2 ⟨rfl, hb3⟩
  refine ⟨_, rfl, ?_⟩
  have M4 := M0.call hb3
  refine SL.run (d := 2) (v := .bool true) (by kernel_rfl) (SL.nil (SC.next (SC.ret (by kernel_rfl) (SQ.seqExit (by nofun) (SQ.ret1 (t := 2) (v := .bool true) (.inr rfl) (by kernel_rfl) (by kernel_rfl) ?_)))))
  exact ⟨rfl, M4.bel⟩
 ·skip
  have ph1 : ¬ ((100000 : Int) < ((l.length : Nat) : Int)) := of_decide_eq_false h1
  refine SL.bool (d := 12) (x := (decide ((100000 : Int) < ((l.length : Nat) : Int)))) (y := false) h1 (by kernel_rfl) (SL.nil (SC.next (SC.no (by kernel_rfl) (SC.skip (by kernel_rfl) (SC.next (SC.seq (by kernel_rfl) ?_))))))
  refine SC.region [0, 1, 2] (by kernel_rfl) (by kernel_rfl) (SL.run (d := 14) (v := .slice a l.length c) (by kernel_rfl) (SL.appendM (d := 15) (ts := [46, 46]) (ty := 46) (vs := [.slice none 0 0, .slice a l.length c]) (k' := l.length) (by kernel_rfl) (Mem.append (m := l.length) (news := (l.map (Value.int .u8))) (Mem.addNil (e := 5) (size := 1) M0) 0 rfl (ET.of Try.underlying46 (by kernel_rfl) (by decide) (by decide) : ET Try.prog 46 5 (.int .u8 0) 1 1) (hr.below M0.bel (Nat.le_refl _)).row (by rw [List.length_map, Nat.mul_one]) (fun u hu => by obtain ⟨z, _, rfl⟩ := List.mem_map.1 hu; rfl) (by omega) (by omega) (by omega)) ?_))
  intro a5 c6 w7 M8 hk9
  have hb10 : Below _ _ w7 := hk9.toBelow (fun i _ e => (by cases e))
  refine SL.run (d := 3) (v := .slice a5 l.length c6) (by kernel_rfl) (SL.nil (SC.next (SC.seq (by kernel_rfl) (SC.region [0, 1, 2, 3, 4, 5, 6, 7, 8, 9] (by kernel_rfl) (by kernel_rfl) (SL.run (d := 17) (v := .slice a5 l.length c6) (by kernel_rfl) ?_)))))
  have hown : RdI .u8 w7 a5 c6 l := ⟨M8.rd 0 rfl, hr.bd⟩
  have hofl := own_flat (M8.get 0 rfl : World.ownsRow _ _ _ _ _ _ _)
  have hB11 : Below w7.heap.size w7 w7 := Below.refl _ _
  refine SL.call (d := 18) (f := 17) (vs := [.slice a5 l.length c6]) (by kernel_rfl) (by kernel_rfl) (of8_walk a5 c6 l w7 hown (by omega) hofl) ?_
  rintro e w12 ⟨hra, hb13⟩
  have M14 := M8.call hb13
  replace hB11 := bel_then hB11 hb13
  have hB15 : Below w12.heap.size w12 w12 := Below.refl _ _
  rcases hra with ⟨h1, rfl⟩ | ⟨y, kk, h1, rfl, hy⟩
  ·skip
   have hof : ofF l = none := h1
   refine ⟨_, rfl, ?_⟩
   refine SL.run (d := 16) (v := .tuple #[.agg #[.string ⟨#[]⟩, .slice none 0 0, .slice none 0 0, .slice none 0 0], .int .u32 0, .int .i64 4]) (by kernel_rfl) (SL.run (d := 19) (v := .agg #[.string ⟨#[]⟩, .slice none 0 0, .slice none 0 0, .slice none 0 0]) (by kernel_rfl) (SL.run (d := 20) (v := .int .u32 0) (by kernel_rfl) (SL.run (d := 21) (v := .int .i64 4) (by kernel_rfl) (SL.allocM (d := 4) (t := 26) (z := .agg #[.string ⟨#[]⟩, .slice none 0 0, .slice none 0 0, .slice none 0 0]) (cs := #[.string ⟨#[]⟩, .slice none 0 0, .slice none 0 0, .slice none 0 0]) M14 (by kernel_rfl) (by kernel_rfl) rfl ?_))))
   intro g16 w17 hb18 ⟨bg16, lg16⟩ M19
   have lo_hB11_g16 : w7.heap.size ≤ g16 := Nat.le_trans (Below.size hB11) bg16
   have lo_hB15_g16 : w12.heap.size ≤ g16 := Nat.le_trans (Below.size hB15) bg16
   replace hB11 := bel_then hB11 hb18
   replace hB15 := bel_then hB15 hb18
   refine SL.storeM (t := 26) (a := .pointer (some ⟨g16, 0, none⟩)) (v := .agg #[.string ⟨#[]⟩, .slice none 0 0, .slice none 0 0, .slice none 0 0]) (by kernel_rfl) (M19.stBox 0 rfl rfl (by kernel_rfl) rfl) ?_
   intro w20 M21 hk22 shk22
   replace hB11 := bel_keW hB11 hk22 (fun i e => by subst e; exact lo_hB11_g16)
   replace hB15 := bel_keW hB15 hk22 (fun i e => by subst e; exact lo_hB15_g16)
   refine SL.run (d := 5) (v := .int .u32 0) (by kernel_rfl) (SL.run (d := 6) (v := .int .i64 4) (by kernel_rfl) (SL.nil (SC.next (SC.seq (by kernel_rfl) (SC.region [0, 1, 2, 3, 4, 5, 6, 7, 8, 9] (by kernel_rfl) (by kernel_rfl) (SL.run (d := 23) (v := .slice a l.length c) (by kernel_rfl) ?_))))))
   refine SL.call (d := 24) (f := 18) (vs := [.slice a l.length c]) (by kernel_rfl) (by kernel_rfl) (rof8_walk a c l w20 (hr.below M21.bel (Nat.le_refl _)) (by omega)) ?_
   rintro e w23 ⟨hra2, hb24⟩
   have M25 := M21.call hb24
   replace hB11 := bel_then hB11 hb24
   replace hB15 := bel_then hB15 hb24
   have hB26 : Below w23.heap.size w23 w23 := Below.refl _ _
   rcases hra2 with ⟨_, rfl⟩ | ⟨y, kk, h2, _⟩
   rotate_left
   ·rw [hof] at h2; cases h2
   refine ⟨_, rfl, ?_⟩
   refine SL.run (d := 22) (v := .tuple #[.agg #[.string ⟨#[]⟩, .slice none 0 0, .slice none 0 0, .slice none 0 0], .int .u32 0, .bool false]) (by kernel_rfl) (SL.run (d := 25) (v := .agg #[.string ⟨#[]⟩, .slice none 0 0, .slice none 0 0, .slice none 0 0]) (by kernel_rfl) (SL.run (d := 26) (v := .int .u32 0) (by kernel_rfl) (SL.run (d := 27) (v := .bool false) (by kernel_rfl) (SL.allocM (d := 7) (t := 26) (z := .agg #[.string ⟨#[]⟩, .slice none 0 0, .slice none 0 0, .slice none 0 0]) (cs := #[.string ⟨#[]⟩, .slice none 0 0, .slice none 0 0, .slice none 0 0]) M25 (by kernel_rfl) (by kernel_rfl) rfl ?_))))
   intro g27 w28 hb29 ⟨bg27, lg27⟩ M30
   have lo_hB11_g27 : w7.heap.size ≤ g27 := Nat.le_trans (Below.size hB11) bg27
   have lo_hB15_g27 : w12.heap.size ≤ g27 := Nat.le_trans (Below.size hB15) bg27
   have lo_hB26_g27 : w23.heap.size ≤ g27 := Nat.le_trans (Below.size hB26) bg27
   replace hB11 := bel_then hB11 hb29
   replace hB15 := bel_then hB15 hb29
   replace hB26 := bel_then hB26 hb29
   refine SL.storeM (t := 26) (a := .pointer (some ⟨g27, 0, none⟩)) (v := .agg #[.string ⟨#[]⟩, .slice none 0 0, .slice none 0 0, .slice none 0 0]) (by kernel_rfl) (M30.stBox 0 rfl rfl (by kernel_rfl) rfl) ?_
   intro w31 M32 hk33 shk33
   replace hB11 := bel_keW hB11 hk33 (fun i e => by subst e; exact lo_hB11_g27)
   replace hB15 := bel_keW hB15 hk33 (fun i e => by subst e; exact lo_hB15_g27)
   replace hB26 := bel_keW hB26 hk33 (fun i e => by subst e; exact lo_hB26_g27)
   refine SL.run (d := 8) (v := .int .u32 0) (by kernel_rfl) (SL.run (d := 9) (v := .bool false) (by kernel_rfl) (SL.nil (SC.next (SC.keep (l' := [(0, .slice a l.length c), (2, .bool false), (3, .slice a5 l.length c6), (4, .pointer (some ⟨g16, 0, none⟩)), (5, .int .u32 0), (6, .int .i64 4), (7, .pointer (some ⟨g27, 0, none⟩)), (8, .int .u32 0), (9, .bool false)]) [0, 2, 3, 4, 5, 6, 7, 8, 9] (by kernel_rfl) (SC.seq (by kernel_rfl) (SC.seq (by kernel_rfl) ?_))))))
   refine SC.region [0, 1, 2, 3, 4] (by kernel_rfl) (by kernel_rfl) (SL.run (d := 28) (v := .slice a5 l.length c6) (by kernel_rfl) (SL.ex (d := 29) (m := convert 46 9 (.slice a5 l.length c6)) (v := .string (strOf l)) (by kernel_rfl) (run_str_of (hown.below hB11 (Nat.le_refl _)) Try.underlying46 Try.underlying5 Try.underlying9) (SL.run (d := 30) (v := .slice a l.length c) (by kernel_rfl) (SL.ex (d := 31) (m := convert 46 9 (.slice a l.length c)) (v := .string (strOf l)) (by kernel_rfl) (run_str_of (hr.below M32.bel (Nat.le_refl _)) Try.underlying46 Try.underlying5 Try.underlying9) (SL.bool (d := 32) (x := (!((strOf l).toList == (strOf l).toList))) (y := false) ((str_bne _ _).trans (by rw [(decide_eq_true rfl)]; rfl)) (by kernel_rfl) ?_)))))
   refine SL.nil (SC.next (SC.no (by kernel_rfl) (SC.skip (by kernel_rfl) (SC.next (SC.seq (by kernel_rfl) (SC.seq (by kernel_rfl) ?_))))))
   refine SC.region [0, 1] (by kernel_rfl) (by kernel_rfl) (SL.run (d := 33) (v := .bool false) (by kernel_rfl) (SL.run (d := 34) (v := .bool true) (by kernel_rfl) (SL.nil (SC.next (SC.yes (by kernel_rfl) (SC.seq (by kernel_rfl) ?_))))))
   refine SC.region [0, 1, 2, 3, 4, 5, 6, 7, 8, 9, 10, 11, 12, 13, 14] (by kernel_rfl) (by kernel_rfl) (SL.run (d := 35) (v := .int .i64 4) (by kernel_rfl) (SL.run (d := 36) (v := .bool true) (by kernel_rfl) (SL.run (d := 37) (v := .bool true) (by kernel_rfl) (SL.run (d := 38) (v := .int .u32 0) (by kernel_rfl) (SL.run (d := 39) (v := .bool true) (by kernel_rfl) (SL.pick (d := 40) (v := .bool true) (by kernel_rfl) ?_))))))
   refine SL.run (d := 41) (v := .bool true) (by kernel_rfl) (SL.run (d := 42) (v := .pointer (some ⟨g16, 0, none⟩)) (by kernel_rfl) (SL.load (d := 43) (t := 9) (a := .pointer (some ⟨g16, 0, none⟩)) (v := .string ⟨#[]⟩) (by kernel_rfl) (M32.ldCell 1 rfl (j := 0) (v := .string ⟨#[]⟩) rfl Try.underlying9 rfl) (SL.bool (d := 44) (x := ((⟨#[]⟩ : ByteArray).toList == (⟨#[]⟩ : ByteArray).toList)) (y := true) ((str_beq _ _).trans (decide_eq_true rfl)) (by kernel_rfl) (SL.pick (d := 45) (v := .bool true) (by kernel_rfl) (SL.run (d := 46) (v := .bool true) (by kernel_rfl) (SL.call (d := 47) (f := 11) (vs := []) (by kernel_rfl) (by kernel_rfl) (known_walk w31) ?_))))))
   rintro e w34 ⟨rfl, hb35⟩
   refine ⟨_, rfl, ?_⟩
   have M36 := M32.call hb35
   replace hB11 := bel_then hB11 hb35
   replace hB15 := bel_then hB15 hb35
   replace hB26 := bel_then hB26 hb35
   refine SL.pick (d := 48) (v := .bool true) (by kernel_rfl) (SL.run (d := 2) (v := .bool true) (by kernel_rfl) (SL.nil (SC.next (SC.keep (l' := [(2, .bool true), (4, .pointer (some ⟨g16, 0, none⟩)), (5, .int .u32 0), (6, .int .i64 4), (7, .pointer (some ⟨g27, 0, none⟩)), (8, .int .u32 0)]) [2, 4, 5, 6, 7, 8] (by kernel_rfl) (SC.ret (by kernel_rfl) (SQ.seqExit (by nofun) ?_))))))
   refine SQ.ret1 (t := 2) (v := .bool true) (.inr rfl) (by kernel_rfl) (by kernel_rfl) ?_
   exact ⟨rfl, M36.bel⟩
  ·skip
   have hof : ofF l = some (y.d, kk) := h1
   obtain ⟨yn, ⟨ya1, yc1, yl1⟩, ⟨ya2, yc2, yl2⟩, ⟨ya3, yc3, yl3⟩⟩ := y
   refine ⟨_, rfl, ?_⟩
   refine SL.run (d := 16) (v := .tuple #[.agg #[.string yn, .slice ya1 yl1.length yc1, .slice ya2 yl2.length yc2, .slice ya3 yl3.length yc3], .int .u32 kk, .int .i64 0]) (by kernel_rfl) (SL.run (d := 19) (v := .agg #[.string yn, .slice ya1 yl1.length yc1, .slice ya2 yl2.length yc2, .slice ya3 yl3.length yc3]) (by kernel_rfl) (SL.run (d := 20) (v := .int .u32 kk) (by kernel_rfl) (SL.run (d := 21) (v := .int .i64 0) (by kernel_rfl) (SL.allocM (d := 4) (t := 26) (z := .agg #[.string ⟨#[]⟩, .slice none 0 0, .slice none 0 0, .slice none 0 0]) (cs := #[.string ⟨#[]⟩, .slice none 0 0, .slice none 0 0, .slice none 0 0]) M14 (by kernel_rfl) (by kernel_rfl) rfl ?_))))
   intro g37 w38 hb39 ⟨bg37, lg37⟩ M40
   have lo_hB11_g37 : w7.heap.size ≤ g37 := Nat.le_trans (Below.size hB11) bg37
   have lo_hB15_g37 : w12.heap.size ≤ g37 := Nat.le_trans (Below.size hB15) bg37
   replace hB11 := bel_then hB11 hb39
   replace hB15 := bel_then hB15 hb39
   refine SL.storeM (t := 26) (a := .pointer (some ⟨g37, 0, none⟩)) (v := .agg #[.string yn, .slice ya1 yl1.length yc1, .slice ya2 yl2.length yc2, .slice ya3 yl3.length yc3]) (by kernel_rfl) (M40.stBox 0 rfl rfl (by kernel_rfl) rfl) ?_
   intro w41 M42 hk43 shk43
   replace hB11 := bel_keW hB11 hk43 (fun i e => by subst e; exact lo_hB11_g37)
   replace hB15 := bel_keW hB15 hk43 (fun i e => by subst e; exact lo_hB15_g37)
   refine SL.run (d := 5) (v := .int .u32 kk) (by kernel_rfl) (SL.run (d := 6) (v := .int .i64 0) (by kernel_rfl) (SL.nil (SC.next (SC.seq (by kernel_rfl) (SC.region [0, 1, 2, 3, 4, 5, 6, 7, 8, 9] (by kernel_rfl) (by kernel_rfl) (SL.run (d := 23) (v := .slice a l.length c) (by kernel_rfl) ?_))))))
   refine SL.call (d := 24) (f := 18) (vs := [.slice a l.length c]) (by kernel_rfl) (by kernel_rfl) (rof8_walk a c l w41 (hr.below M42.bel (Nat.le_refl _)) (by omega)) ?_
   rintro e w44 ⟨hra2, hb45⟩
   have M46 := M42.call hb45
   replace hB11 := bel_then hB11 hb45
   replace hB15 := bel_then hB15 hb45
   have hB47 : Below w44.heap.size w44 w44 := Below.refl _ _
   rcases hra2 with ⟨h2, _⟩ | ⟨x, k2, h2, rfl, hx⟩
   ·rw [hof] at h2; cases h2
   rw [hof] at h2
   obtain ⟨hd, rfl⟩ := Prod.mk.inj (Option.some.inj h2)
   obtain ⟨xn, ⟨xa1, xc1, xl1⟩, ⟨xa2, xc2, xl2⟩, ⟨xa3, xc3, xl3⟩⟩ := x
   have hmy : mayFace (⟨yn, ⟨ya1, yc1, yl1⟩, ⟨ya2, yc2, yl2⟩, ⟨ya3, yc3, yl3⟩⟩ : Fc).d = true := (ofF_sound (fun z hz => bd_u8 (hr.bd z hz)) hof).2.2.1
   have hsame : sameF (⟨yn, ⟨ya1, yc1, yl1⟩, ⟨ya2, yc2, yl2⟩, ⟨ya3, yc3, yl3⟩⟩ : Fc).d (⟨xn, ⟨xa1, xc1, xl1⟩, ⟨xa2, xc2, xl2⟩, ⟨xa3, xc3, xl3⟩⟩ : Fc).d = true := by rw [← hd, sameF_self]; exact hmy
   refine ⟨_, rfl, ?_⟩
   refine SL.run (d := 22) (v := .tuple #[.agg #[.string xn, .slice xa1 xl1.length xc1, .slice xa2 xl2.length xc2, .slice xa3 xl3.length xc3], .int .u32 kk, .bool true]) (by kernel_rfl) (SL.run (d := 25) (v := .agg #[.string xn, .slice xa1 xl1.length xc1, .slice xa2 xl2.length xc2, .slice xa3 xl3.length xc3]) (by kernel_rfl) (SL.run (d := 26) (v := .int .u32 kk) (by kernel_rfl) (SL.run (d := 27) (v := .bool true) (by kernel_rfl) (SL.allocM (d := 7) (t := 26) (z := .agg #[.string ⟨#[]⟩, .slice none 0 0, .slice none 0 0, .slice none 0 0]) (cs := #[.string ⟨#[]⟩, .slice none 0 0, .slice none 0 0, .slice none 0 0]) M46 (by kernel_rfl) (by kernel_rfl) rfl ?_))))
   intro g48 w49 hb50 ⟨bg48, lg48⟩ M51
   have lo_hB11_g48 : w7.heap.size ≤ g48 := Nat.le_trans (Below.size hB11) bg48
   have lo_hB15_g48 : w12.heap.size ≤ g48 := Nat.le_trans (Below.size hB15) bg48
   have lo_hB47_g48 : w44.heap.size ≤ g48 := Nat.le_trans (Below.size hB47) bg48
   replace hB11 := bel_then hB11 hb50
   replace hB15 := bel_then hB15 hb50
   replace hB47 := bel_then hB47 hb50
   refine SL.storeM (t := 26) (a := .pointer (some ⟨g48, 0, none⟩)) (v := .agg #[.string xn, .slice xa1 xl1.length xc1, .slice xa2 xl2.length xc2, .slice xa3 xl3.length xc3]) (by kernel_rfl) (M51.stBox 0 rfl rfl (by kernel_rfl) rfl) ?_
   intro w52 M53 hk54 shk54
   replace hB11 := bel_keW hB11 hk54 (fun i e => by subst e; exact lo_hB11_g48)
   replace hB15 := bel_keW hB15 hk54 (fun i e => by subst e; exact lo_hB15_g48)
   replace hB47 := bel_keW hB47 hk54 (fun i e => by subst e; exact lo_hB47_g48)
   refine SL.run (d := 8) (v := .int .u32 kk) (by kernel_rfl) (SL.run (d := 9) (v := .bool true) (by kernel_rfl) (SL.nil (SC.next (SC.keep (l' := [(0, .slice a l.length c), (2, .bool false), (3, .slice a5 l.length c6), (4, .pointer (some ⟨g37, 0, none⟩)), (5, .int .u32 kk), (6, .int .i64 0), (7, .pointer (some ⟨g48, 0, none⟩)), (8, .int .u32 kk), (9, .bool true)]) [0, 2, 3, 4, 5, 6, 7, 8, 9] (by kernel_rfl) (SC.seq (by kernel_rfl) (SC.seq (by kernel_rfl) ?_))))))
   refine SC.region [0, 1, 2, 3, 4] (by kernel_rfl) (by kernel_rfl) (SL.run (d := 28) (v := .slice a5 l.length c6) (by kernel_rfl) (SL.ex (d := 29) (m := convert 46 9 (.slice a5 l.length c6)) (v := .string (strOf l)) (by kernel_rfl) (run_str_of (hown.below hB11 (Nat.le_refl _)) Try.underlying46 Try.underlying5 Try.underlying9) (SL.run (d := 30) (v := .slice a l.length c) (by kernel_rfl) (SL.ex (d := 31) (m := convert 46 9 (.slice a l.length c)) (v := .string (strOf l)) (by kernel_rfl) (run_str_of (hr.below M53.bel (Nat.le_refl _)) Try.underlying46 Try.underlying5 Try.underlying9) (SL.bool (d := 32) (x := (!((strOf l).toList == (strOf l).toList))) (y := false) ((str_bne _ _).trans (by rw [(decide_eq_true rfl)]; rfl)) (by kernel_rfl) ?_)))))
   refine SL.nil (SC.next (SC.no (by kernel_rfl) (SC.skip (by kernel_rfl) (SC.next (SC.seq (by kernel_rfl) (SC.seq (by kernel_rfl) ?_))))))
   refine SC.region [0, 1] (by kernel_rfl) (by kernel_rfl) (SL.run (d := 33) (v := .bool true) (by kernel_rfl) (SL.run (d := 34) (v := .bool false) (by kernel_rfl) (SL.nil (SC.next (SC.no (by kernel_rfl) (SC.skip (by kernel_rfl) ?_))))))
   refine SC.next (SC.seq (by kernel_rfl) (SC.region [0, 1, 2, 3, 4, 5, 6, 7, 8, 9, 10, 11, 12, 13, 14, 15] (by kernel_rfl) (by kernel_rfl) (SL.run (d := 49) (v := .int .i64 0) (by kernel_rfl) (SL.run (d := 50) (v := .bool true) (by kernel_rfl) (SL.run (d := 51) (v := .bool true) (by kernel_rfl) (SL.run (d := 52) (v := .int .u32 kk) (by kernel_rfl) ?_))))))
   refine SL.run (d := 53) (v := .int .u32 kk) (by kernel_rfl) (SL.bool (d := 54) (x := (kk == kk)) (y := true) ((int_beq _ _).trans (decide_eq_true rfl)) (by kernel_rfl) (SL.pick (d := 55) (v := .bool true) (by kernel_rfl) (SL.run (d := 56) (v := .bool true) (by kernel_rfl) (SL.load (d := 57) (t := 26) (a := .pointer (some ⟨g37, 0, none⟩)) (v := .agg #[.string yn, .slice ya1 yl1.length yc1, .slice ya2 yl2.length yc2, .slice ya3 yl3.length yc3]) (by kernel_rfl) (M53.ldBox 1 rfl Try.underlying26 rfl (by kernel_rfl)) (SL.load (d := 58) (t := 26) (a := .pointer (some ⟨g48, 0, none⟩)) (v := .agg #[.string xn, .slice xa1 xl1.length xc1, .slice xa2 xl2.length xc2, .slice xa3 xl3.length xc3]) (by kernel_rfl) (M53.ldBox 0 rfl Try.underlying26 rfl (by kernel_rfl)) ?_)))))
   refine SL.call (d := 59) (f := 14) (vs := [.agg #[.string yn, .slice ya1 yl1.length yc1, .slice ya2 yl2.length yc2, .slice ya3 yl3.length yc3], .agg #[.string xn, .slice xa1 xl1.length xc1, .slice xa2 xl2.length xc2, .slice xa3 xl3.length xc3]]) (by kernel_rfl) (by kernel_rfl) (by have := lawSame_walk (⟨yn, ⟨ya1, yc1, yl1⟩, ⟨ya2, yc2, yl2⟩, ⟨ya3, yc3, yl3⟩⟩ : Fc) (⟨xn, ⟨xa1, xc1, xl1⟩, ⟨xa2, xc2, xl2⟩, ⟨xa3, xc3, xl3⟩⟩ : Fc) w52 (hy.bel hB15) (hx.bel hB47); rw [hsame] at this; exact this) ?_
   rintro e w55 ⟨rfl, hb56⟩
   refine ⟨_, rfl, ?_⟩
   have M57 := M53.call hb56
   replace hB11 := bel_then hB11 hb56
   replace hB15 := bel_then hB15 hb56
   replace hB47 := bel_then hB47 hb56
   refine SL.pick (d := 60) (v := .bool true) (by kernel_rfl) (SL.run (d := 61) (v := .bool true) (by kernel_rfl) (SL.call (d := 62) (f := 11) (vs := []) (by kernel_rfl) (by kernel_rfl) (known_walk w55) ?_))
   rintro e w58 ⟨rfl, hb59⟩
   refine ⟨_, rfl, ?_⟩
   have M60 := M57.call hb59
   replace hB11 := bel_then hB11 hb59
   replace hB15 := bel_then hB15 hb59
   replace hB47 := bel_then hB47 hb59
   refine SL.pick (d := 63) (v := .bool true) (by kernel_rfl) (SL.run (d := 2) (v := .bool true) (by kernel_rfl) (SL.nil (SC.next (SC.keep (l' := [(2, .bool true)]) [2] (by kernel_rfl) (SC.ret (by kernel_rfl) (SQ.ret1 (t := 2) (v := .bool true) (.inr rfl) (by kernel_rfl) (by kernel_rfl) ?_))))))
   exact ⟨rfl, M60.bel⟩
end Go.Proofs.Ytfnibpkojhgflaa
