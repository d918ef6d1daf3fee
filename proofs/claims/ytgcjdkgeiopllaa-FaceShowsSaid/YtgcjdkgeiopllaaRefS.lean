/- Walk: the reference's Shows. Printed by bin/gen_ref20s.py. -/
import Derived.Test.YtgcjdkgeiopllaaRefM
namespace Go.Proofs.Ytgcjdkgeiopllaa
set_option linter.unusedVariables false
set_option linter.unusedSimpArgs false
open Go.RowKit

def HeadS (a b : FD) (o q : FO) : Prop := o.name = q.name ∧ o.cls = q.cls ∧ o.value = q.value ∧ onceP a b (Alike a b) o.base q.base ∧ o.params.l.length = q.params.l.length
def PrmS (a b : FD) (o q : FO) (j : Nat) : Prop := ∀ (k : Nat) (p p' : Prm), k < j → o.params.l[k]? = some p → q.params.l[k]? = some p' → p.var = p'.var ∧ onceP a b (Alike a b) p.base p'.base
def SameS (a b : FD) (o q : FO) : Prop := q.d.name = o.d.name ∧ sameO a b o.d q.d
theorem same_iff {a b : FD} {o q : FO} {j : Nat} (hj : o.params.l.length ≤ j) : HeadS a b o q ∧ PrmS a b o q j ↔ SameS a b o q := by
  constructor
  · rintro ⟨⟨h1, h2, h3, h4, h5⟩, h6⟩
    exact ⟨h1.symm, h2, h3, h4, h5, fun k p p' hp hp' => h6 k p p' (Nat.lt_of_lt_of_le (List.getElem?_eq_some_iff.1 (show o.params.l[k]? = some p from hp)).1 hj) hp hp'⟩
  · rintro ⟨h1, h2, h3, h4, h5, h6⟩
    exact ⟨⟨h1.symm, h2, h3, h4, h5⟩, fun k p p' _ hp hp' => h6 k p p' hp hp'⟩
theorem prm_zero {a b : FD} {o q : FO} : PrmS a b o q 0 := fun k p p' h => absurd h (Nat.not_lt_zero _)
theorem prm_step {a b : FD} {o q : FO} {j : Nat} {p p' : Prm} (hp : o.params.l[j]? = some p) (hp' : q.params.l[j]? = some p') : PrmS a b o q (j + 1) ↔ PrmS a b o q j ∧ (p.var = p'.var ∧ onceP a b (Alike a b) p.base p'.base) := by
  constructor
  · intro h
    exact ⟨fun k u v hk => h k u v (by omega), h j p p' (by omega) hp hp'⟩
  · rintro ⟨h1, h2⟩ k u v hk hu hv
    rcases Nat.lt_or_ge k j with q | q
    · exact h1 k u v q hu hv
    · obtain rfl : k = j := by omega
      rw [hp] at hu; rw [hp'] at hv
      obtain rfl := Option.some.inj hu
      obtain rfl := Option.some.inj hv
      exact h2
def FoundS (a b : FD) (o : FO) (ql : List FO) (k : Nat) : Prop := ∃ (j : Nat) (q : FO), j < k ∧ ql[j]? = some q ∧ SameS a b o q
theorem found_step {a b : FD} {o : FO} {ql : List FO} {k : Nat} {q : FO} (hq : ql[k]? = some q) : FoundS a b o ql (k + 1) ↔ FoundS a b o ql k ∨ SameS a b o q := by
  constructor
  · rintro ⟨j, r, h1, h2, h3⟩
    rcases Nat.lt_or_ge j k with h | h
    · exact .inl ⟨j, r, h, h2, h3⟩
    · obtain rfl : j = k := by omega
      rw [hq] at h2
      obtain rfl := Option.some.inj h2
      exact .inr h3
  · rintro (⟨j, r, h1, h2, h3⟩ | h)
    · exact ⟨j, r, by omega, h2, h3⟩
    · exact ⟨k, q, by omega, hq, h⟩
theorem shows_all {x y : Fc} (mx : mayFace x.d = true) (my : mayFace y.d = true) (hn : x.name = y.name) (hl : x.objs.l.length = y.objs.l.length) {i k : Nat} (hi : x.objs.l.length ≤ i) (h : ∀ (j : Nat) (o : FO), j < i → x.objs.l[j]? = some o → FoundS x.d y.d o y.objs.l y.objs.l.length) : showsP x.d y.d := by
  refine ⟨mx, my, hn, by show (x.objs.l.map FO.d).length = (y.objs.l.map FO.d).length; rw [List.length_map, List.length_map, hl], fun o ho => ?_⟩
  obtain ⟨o', ho', rfl⟩ := List.mem_map.1 (show o ∈ x.objs.l.map FO.d from ho)
  obtain ⟨j, hj⟩ := List.mem_iff_getElem?.1 ho'
  obtain ⟨m, q, _, h2, h3⟩ := h j o' (Nat.lt_of_lt_of_le (List.getElem?_eq_some_iff.1 hj).1 hi) hj
  exact ⟨q.d, List.mem_map_of_mem (List.mem_of_getElem? h2), h3.1, h3.2⟩
theorem shows_not {x y : Fc} {o : FO} (ho : o ∈ x.objs.l) {k : Nat} (hk : y.objs.l.length ≤ k) (h : ¬ FoundS x.d y.d o y.objs.l k) : ¬ showsP x.d y.d := by
  rintro ⟨_, _, _, _, h5⟩
  obtain ⟨q, hq, e, hs⟩ := h5 o.d (List.mem_map_of_mem ho)
  obtain ⟨q', hq', rfl⟩ := List.mem_map.1 (show q ∈ y.objs.l.map FO.d from hq)
  obtain ⟨j, hj⟩ := List.mem_iff_getElem?.1 hq'
  exact h ⟨j, q', Nat.lt_of_lt_of_le (List.getElem?_eq_some_iff.1 hj).1 hk, hj, e, hs⟩
theorem iff_true' {p : Prop} (h : p) : (true = true ↔ p) := yes_iff h

theorem rshows_walk (x y : Fc) (w : World) (hx : x.Rd w) (hy : y.Rd w) : Calls Try.prog 12 #[x.val, y.val] w fun e w' => ∃ R : Bool, e = .returned (.bool R) ∧ (R = true ↔ showsP x.d y.d) ∧ Below w.heap.size w w' := by
  obtain ⟨DX, hDX⟩ : ∃ D, D = x.d := ⟨_, rfl⟩
  obtain ⟨DY, hDY⟩ : ∃ D, D = y.d := ⟨_, rfl⟩
  obtain ⟨D, hD⟩ : ∃ D : Prop, D = showsP x.d y.d := ⟨_, rfl⟩
  rw [← hD]
  obtain ⟨mx, hmx⟩ : ∃ b, mayFace x.d = b := ⟨_, rfl⟩
  obtain ⟨my, hmy⟩ : ∃ b, mayFace y.d = b := ⟨_, rfl⟩
  have i3 := hx.objs.len
  have j3 := hy.objs.len
  obtain ⟨xn, ⟨xa1, xc1, xl1⟩, ⟨xa2, xc2, xl2⟩, ⟨xa3, xc3, xl3⟩⟩ := x
  obtain ⟨yn, ⟨ya1, yc1, yl1⟩, ⟨ya2, yc2, yl2⟩, ⟨ya3, yc3, yl3⟩⟩ := y
  dsimp only at i3 j3
  refine SC.enter (vs := [.agg #[.string xn, .slice xa1 xl1.length xc1, .slice xa2 xl2.length xc2, .slice xa3 xl3.length xc3], .agg #[.string yn, .slice ya1 yl1.length yc1, .slice ya2 yl2.length yc2, .slice ya3 yl3.length yc3]]) (n := 149) (l := [(0, .agg #[.string xn, .slice xa1 xl1.length xc1, .slice xa2 xl2.length xc2, .slice xa3 xl3.length xc3]), (1, .agg #[.string yn, .slice ya1 yl1.length yc1, .slice ya2 yl2.length yc2, .slice ya3 yl3.length yc3])]) Try.func12 (by kernel_rfl) (by kernel_rfl) (by kernel_rfl) (by kernel_rfl) ?_
  have M0 := Mem.start w
  refine SC.seq (by kernel_rfl) ?_
  refine SC.region [0, 1, 2] (by kernel_rfl) (by kernel_rfl) ?_
  refine SL.boxM (d := 2) (t := 26) (v := .agg #[.string xn, .slice xa1 xl1.length xc1, .slice xa2 xl2.length xc2, .slice xa3 xl3.length xc3]) (cs := #[.string xn, .slice xa1 xl1.length xc1, .slice xa2 xl2.length xc2, .slice xa3 xl3.length xc3]) M0 (by kernel_rfl) rfl ?_
  intro g1 w2 hb3 ⟨bg1, lg1⟩ M4
  refine SL.boxM (d := 3) (t := 26) (v := .agg #[.string yn, .slice ya1 yl1.length yc1, .slice ya2 yl2.length yc2, .slice ya3 yl3.length yc3]) (cs := #[.string yn, .slice ya1 yl1.length yc1, .slice ya2 yl2.length yc2, .slice ya3 yl3.length yc3]) M4 (by kernel_rfl) rfl ?_
  intro g5 w6 hb7 ⟨bg5, lg5⟩ M8
  refine SL.run (d := 4) (v := .bool false) (by kernel_rfl) ?_
  refine SL.nil ?_
  refine SC.next ?_
  refine SC.seq (by kernel_rfl) ?_
  refine SC.seq (by kernel_rfl) ?_
  refine SC.region [0, 1, 2, 3, 4, 5, 6, 7, 8, 9, 10, 11, 12, 13, 14, 15, 16, 17, 18, 19, 20, 21, 22, 23] (by kernel_rfl) (by kernel_rfl) ?_
  refine SL.load (d := 13) (t := 26) (a := .pointer (some ⟨g1, 0, none⟩)) (v := .agg #[.string xn, .slice xa1 xl1.length xc1, .slice xa2 xl2.length xc2, .slice xa3 xl3.length xc3]) (by kernel_rfl) (M8.ldBox 1 rfl Try.underlying26 rfl (by kernel_rfl)) ?_
  refine SL.call (d := 14) (f := 10) (vs := [.agg #[.string xn, .slice xa1 xl1.length xc1, .slice xa2 xl2.length xc2, .slice xa3 xl3.length xc3]]) (by kernel_rfl) (by kernel_rfl) (by have := rmay_walk (⟨xn, ⟨xa1, xc1, xl1⟩, ⟨xa2, xc2, xl2⟩, ⟨xa3, xc3, xl3⟩⟩ : Fc) w6 (hx.bel M8.bel); rw [hmx] at this; exact this) ?_
  rintro e w9 ⟨rfl, hb10⟩
  refine ⟨_, rfl, ?_⟩
  have M11 := M8.call hb10
  cases mx
  · skip
    refine SL.run (d := 15) (v := .bool true) (by kernel_rfl) ?_
    refine SL.run (d := 16) (v := .bool true) (by kernel_rfl) ?_
    refine SL.offs [4, 5, 6] (is := [7, 8, 9, 10, 11, 12, 13, 14, 15, 16, 17, 18, 19, 20, 21, 22, 23]) rfl (by kernel_rfl) ?_
    refine SL.pick (d := 20) (v := .bool true) (by kernel_rfl) ?_
    refine SL.run (d := 21) (v := .bool true) (by kernel_rfl) ?_
    refine SL.offs [9, 10, 11, 12, 13] (is := [14, 15, 16, 17, 18, 19, 20, 21, 22, 23]) rfl (by kernel_rfl) ?_
    refine SL.pick (d := 27) (v := .bool true) (by kernel_rfl) ?_
    refine SL.run (d := 28) (v := .bool true) (by kernel_rfl) ?_
    refine SL.offs [16, 17, 18, 19, 20, 21, 22] (is := [23]) rfl (by kernel_rfl) ?_
    refine SL.pick (d := 36) (v := .bool true) (by kernel_rfl) ?_
    refine SL.nil ?_
    refine SC.next ?_
    refine SC.yes (by kernel_rfl) ?_
    refine SC.seq (by kernel_rfl) ?_
    refine SC.region [0] (by kernel_rfl) (by kernel_rfl) ?_
    refine SL.run (d := 4) (v := .bool false) (by kernel_rfl) ?_
    refine SL.nil ?_
    refine SC.next ?_
    refine SC.ret (by kernel_rfl) ?_
    refine SQ.seqExit (by nofun) ?_
    refine SQ.ret1 (t := 4) (v := .bool false) (.inr rfl) (by kernel_rfl) (by kernel_rfl) ?_
    refine ⟨_, rfl, ?_, M11.bel⟩
    rw [hD]
    exact no_iff (fun q => by have := q.1; rw [hmx] at this; cases this)
  · skip
    refine SL.run (d := 15) (v := .bool false) (by kernel_rfl) ?_
    refine SL.run (d := 16) (v := .bool false) (by kernel_rfl) ?_
    refine SL.load (d := 17) (t := 26) (a := .pointer (some ⟨g5, 0, none⟩)) (v := .agg #[.string yn, .slice ya1 yl1.length yc1, .slice ya2 yl2.length yc2, .slice ya3 yl3.length yc3]) (by kernel_rfl) (M11.ldBox 0 rfl Try.underlying26 rfl (by kernel_rfl)) ?_
    refine SL.call (d := 18) (f := 10) (vs := [.agg #[.string yn, .slice ya1 yl1.length yc1, .slice ya2 yl2.length yc2, .slice ya3 yl3.length yc3]]) (by kernel_rfl) (by kernel_rfl) (by have := rmay_walk (⟨yn, ⟨ya1, yc1, yl1⟩, ⟨ya2, yc2, yl2⟩, ⟨ya3, yc3, yl3⟩⟩ : Fc) w9 (hy.bel M11.bel); rw [hmy] at this; exact this) ?_
    rintro e w12 ⟨rfl, hb13⟩
    refine ⟨_, rfl, ?_⟩
    have M14 := M11.call hb13
    cases my
    · skip
      refine SL.run (d := 19) (v := .bool true) (by kernel_rfl) ?_
      refine SL.pick (d := 20) (v := .bool true) (by kernel_rfl) ?_
      refine SL.run (d := 21) (v := .bool true) (by kernel_rfl) ?_
      refine SL.offs [9, 10, 11, 12, 13] (is := [14, 15, 16, 17, 18, 19, 20, 21, 22, 23]) rfl (by kernel_rfl) ?_
      refine SL.pick (d := 27) (v := .bool true) (by kernel_rfl) ?_
      refine SL.run (d := 28) (v := .bool true) (by kernel_rfl) ?_
      refine SL.offs [16, 17, 18, 19, 20, 21, 22] (is := [23]) rfl (by kernel_rfl) ?_
      refine SL.pick (d := 36) (v := .bool true) (by kernel_rfl) ?_
      refine SL.nil ?_
      refine SC.next ?_
      refine SC.yes (by kernel_rfl) ?_
      refine SC.seq (by kernel_rfl) ?_
      refine SC.region [0] (by kernel_rfl) (by kernel_rfl) ?_
      refine SL.run (d := 4) (v := .bool false) (by kernel_rfl) ?_
      refine SL.nil ?_
      refine SC.next ?_
      refine SC.keep (l' := [(2, .pointer (some ⟨g1, 0, none⟩)), (3, .pointer (some ⟨g5, 0, none⟩)), (4, .bool false)]) [2, 3, 4] (by kernel_rfl) ?_
      refine SC.ret (by kernel_rfl) ?_
      refine SQ.seqExit (by nofun) ?_
      refine SQ.ret1 (t := 4) (v := .bool false) (.inr rfl) (by kernel_rfl) (by kernel_rfl) ?_
      refine ⟨_, rfl, ?_, M14.bel⟩
      rw [hD]
      exact no_iff (fun q => by have := q.2.1; rw [hmy] at this; cases this)
    · skip
      refine SL.run (d := 19) (v := .bool false) (by kernel_rfl) ?_
      refine SL.pick (d := 20) (v := .bool false) (by kernel_rfl) ?_
      refine SL.run (d := 21) (v := .bool false) (by kernel_rfl) ?_
      refine SL.run (d := 22) (v := .pointer (some ⟨g1, 0, none⟩)) (by kernel_rfl) ?_
      refine SL.load (d := 23) (t := 9) (a := .pointer (some ⟨g1, 0, none⟩)) (v := .string xn) (by kernel_rfl) (M14.ldCell 1 rfl (j := 0) (v := .string xn) rfl Try.underlying9 rfl) ?_
      refine SL.run (d := 24) (v := .pointer (some ⟨g5, 0, none⟩)) (by kernel_rfl) ?_
      refine SL.load (d := 25) (t := 9) (a := .pointer (some ⟨g5, 0, none⟩)) (v := .string yn) (by kernel_rfl) (M14.ldCell 0 rfl (j := 0) (v := .string yn) rfl Try.underlying9 rfl) ?_
      rcases Bool.eq_false_or_eq_true (decide (xn = yn)) with h15 | h15
      · skip
        have ph15 : xn = yn := of_decide_eq_true h15
        refine SL.bool (d := 26) (x := (!(xn.toList == yn.toList))) (y := false) ((str_bne _ _).trans (by rw [h15]; rfl)) (by kernel_rfl) ?_
        refine SL.pick (d := 27) (v := .bool false) (by kernel_rfl) ?_
        refine SL.run (d := 28) (v := .bool false) (by kernel_rfl) ?_
        refine SL.run (d := 29) (v := .pointer (some ⟨g1, 3, none⟩)) (by kernel_rfl) ?_
        refine SL.load (d := 30) (t := 24) (a := .pointer (some ⟨g1, 3, none⟩)) (v := .slice xa3 xl3.length xc3) (by kernel_rfl) (M14.ldCell 1 rfl (j := 3) (v := .slice xa3 xl3.length xc3) rfl Try.underlying24 rfl) ?_
        refine SL.builtin (d := 31) (b := .len) (ts := [24]) (ty := 3) (vs := [.slice xa3 xl3.length xc3]) (v := .int .i64 ((xl3.length : Nat) : Int)) (by kernel_rfl) (fun k => run_len Try.underlying24 rfl k) ?_
        refine SL.run (d := 32) (v := .pointer (some ⟨g5, 3, none⟩)) (by kernel_rfl) ?_
        refine SL.load (d := 33) (t := 24) (a := .pointer (some ⟨g5, 3, none⟩)) (v := .slice ya3 yl3.length yc3) (by kernel_rfl) (M14.ldCell 0 rfl (j := 3) (v := .slice ya3 yl3.length yc3) rfl Try.underlying24 rfl) ?_
        refine SL.builtin (d := 34) (b := .len) (ts := [24]) (ty := 3) (vs := [.slice ya3 yl3.length yc3]) (v := .int .i64 ((yl3.length : Nat) : Int)) (by kernel_rfl) (fun k => run_len Try.underlying24 rfl k) ?_
        rcases Bool.eq_false_or_eq_true (decide (((xl3.length : Nat) : Int) = ((yl3.length : Nat) : Int))) with h16 | h16
        · skip
          have ph16 : ((xl3.length : Nat) : Int) = ((yl3.length : Nat) : Int) := of_decide_eq_true h16
          refine SL.bool (d := 35) (x := (((xl3.length : Nat) : Int) != ((yl3.length : Nat) : Int))) (y := false) ((int_bne _ _).trans (by rw [h16]; rfl)) (by kernel_rfl) ?_
          refine SL.pick (d := 36) (v := .bool false) (by kernel_rfl) ?_
          refine SL.nil ?_
          refine SC.next ?_
          refine SC.keep (l' := [(2, .pointer (some ⟨g1, 0, none⟩)), (3, .pointer (some ⟨g5, 0, none⟩)), (4, .bool false), (36, .bool false)]) [2, 3, 4, 36] (by kernel_rfl) ?_
          refine SC.no (by kernel_rfl) ?_
          refine SC.skip (by kernel_rfl) ?_
          refine SC.next ?_
          refine SC.seq (by kernel_rfl) ?_
          refine SC.region [0, 1, 2, 3] (by kernel_rfl) (by kernel_rfl) ?_
          refine SL.load (d := 37) (t := 26) (a := .pointer (some ⟨g1, 0, none⟩)) (v := .agg #[.string xn, .slice xa1 xl1.length xc1, .slice xa2 xl2.length xc2, .slice xa3 xl3.length xc3]) (by kernel_rfl) (M14.ldBox 1 rfl Try.underlying26 rfl (by kernel_rfl)) ?_
          refine SL.load (d := 38) (t := 26) (a := .pointer (some ⟨g5, 0, none⟩)) (v := .agg #[.string yn, .slice ya1 yl1.length yc1, .slice ya2 yl2.length yc2, .slice ya3 yl3.length yc3]) (by kernel_rfl) (M14.ldBox 0 rfl Try.underlying26 rfl (by kernel_rfl)) ?_
          refine SL.call (d := 39) (f := 28) (vs := [.agg #[.string xn, .slice xa1 xl1.length xc1, .slice xa2 xl2.length xc2, .slice xa3 xl3.length xc3], .agg #[.string yn, .slice ya1 yl1.length yc1, .slice ya2 yl2.length yc2, .slice ya3 yl3.length yc3]]) (by kernel_rfl) (by kernel_rfl) (table_walk (⟨xn, ⟨xa1, xc1, xl1⟩, ⟨xa2, xc2, xl2⟩, ⟨xa3, xc3, xl3⟩⟩ : Fc) (⟨yn, ⟨ya1, yc1, yl1⟩, ⟨ya2, yc2, yl2⟩, ⟨ya3, yc3, yl3⟩⟩ : Fc) w12 (hx.bel M14.bel) (hy.bel M14.bel) (may_ftin hmx) (may_ftin hmy) (by have := may_types hmx; rw [types_len] at this; exact Nat.le_trans this (by decide)) (by have := may_types hmy; rw [types_len] at this; exact Nat.le_trans this (by decide))) ?_
          rintro e w17 ⟨ta, tc, T, rfl, htb, hT, hb18⟩
          refine ⟨_, rfl, ?_⟩
          have M19 := M14.call hb18
          obtain ⟨wt, hwt⟩ : ∃ z, z = w17 := ⟨_, rfl⟩
          have hbt : Below wt.heap.size wt w17 := by rw [hwt]; exact Below.refl _ _
          rw [← hwt] at htb
          clear hwt
          refine SL.run (d := 5) (v := .slice ta xl2.length tc) (by kernel_rfl) ?_
          refine SL.nil ?_
          refine SC.next ?_
          refine SC.seq (by kernel_rfl) ?_
          refine SC.seq (by kernel_rfl) ?_
          refine SC.region [0] (by kernel_rfl) (by kernel_rfl) ?_
          refine SL.run (d := 6) (v := .int .i64 0) (by kernel_rfl) ?_
          refine SL.nil ?_
          refine SC.next ?_
          refine SC.block (i := 0) (by kernel_rfl) ?_
          refine SC.loopA (X := Nat) (fun x => [(2, .pointer (some ⟨g1, 0, none⟩)), (3, .pointer (some ⟨g5, 0, none⟩)), (4, .bool false), (5, .slice ta xl2.length tc), (6, .int .i64 ((x : Nat) : Int))]) (fun x wr => Mem w wr ([bx g5 #[.string yn, .slice ya1 yl1.length yc1, .slice ya2 yl2.length yc2, .slice ya3 yl3.length yc3] 26, bx g1 #[.string xn, .slice xa1 xl1.length xc1, .slice xa2 xl2.length xc2, .slice xa3 xl3.length xc3] 26]) ∧ (x ≤ xl3.length ∧ (∀ (j : Nat) (o : FO), j < x → xl3[j]? = some o → FoundS DX DY o yl3 yl3.length)) ∧ Below wt.heap.size wt wr) (fun x => xl3.length - x) (PanOk.block (PanOk.seq PanOk.body)) (by kernel_rfl) 0 (by kernel_rfl) ⟨M19, ⟨Nat.zero_le _, fun j o hj => absurd hj (Nat.not_lt_zero _)⟩, hbt⟩ ?_
          rintro i w25 ⟨M26, hI20, hbt⟩ Q21 ag22 ex23 pn24
          replace M26 : Mem w w25 ([bx g5 #[.string yn, .slice ya1 yl1.length yc1, .slice ya2 yl2.length yc2, .slice ya3 yl3.length yc3] 26, bx g1 #[.string xn, .slice xa1 xl1.length xc1, .slice xa2 xl2.length xc2, .slice xa3 xl3.length xc3] 26]) := M26
          replace hI20 : i ≤ xl3.length ∧ (∀ (j : Nat) (o : FO), j < i → xl3[j]? = some o → FoundS DX DY o yl3 yl3.length) := hI20
          show SC _ _ _ _ _ [(2, .pointer (some ⟨g1, 0, none⟩)), (3, .pointer (some ⟨g5, 0, none⟩)), (4, .bool false), (5, .slice ta xl2.length tc), (6, .int .i64 ((i : Nat) : Int))] _
          obtain ⟨hi, hall⟩ := hI20
          refine SC.seq (by kernel_rfl) ?_
          refine SC.seq (by kernel_rfl) ?_
          refine SC.region [0, 1, 2, 3, 4] (by kernel_rfl) (by kernel_rfl) ?_
          refine SL.run (d := 40) (v := .int .i64 ((i : Nat) : Int)) (by kernel_rfl) ?_
          refine SL.run (d := 41) (v := .pointer (some ⟨g1, 3, none⟩)) (by kernel_rfl) ?_
          refine SL.load (d := 42) (t := 24) (a := .pointer (some ⟨g1, 3, none⟩)) (v := .slice xa3 xl3.length xc3) (by kernel_rfl) (M26.ldCell 1 rfl (j := 3) (v := .slice xa3 xl3.length xc3) rfl Try.underlying24 rfl) ?_
          refine SL.builtin (d := 43) (b := .len) (ts := [24]) (ty := 3) (vs := [.slice xa3 xl3.length xc3]) (v := .int .i64 ((xl3.length : Nat) : Int)) (by kernel_rfl) (fun k => run_len Try.underlying24 rfl k) ?_
          rcases Bool.eq_false_or_eq_true (decide (((i : Nat) : Int) < ((xl3.length : Nat) : Int))) with h27 | h27
          · skip
            have ph27 : ((i : Nat) : Int) < ((xl3.length : Nat) : Int) := of_decide_eq_true h27
            obtain ⟨ob, oo, ⟨ocl, on, ⟨om, oi⟩, ov, ⟨opa, opc, opl⟩⟩, rfl, hob, ho, hook, hoc⟩ := Rows.elem (hx.objs : Rows foD w ⟨xa3, xc3, xl3⟩) (i := i) (by omega)
            have lox := leads_obj hmx (show FO.d ⟨ocl, on, ⟨om, oi⟩, ov, ⟨opa, opc, opl⟩⟩ ∈ xl3.map FO.d from List.mem_map_of_mem (List.mem_of_getElem? ho))
            have hopr : Rows prmD w ⟨opa, opc, opl⟩ := hook.2.2.2.2
            have opll := hopr.len
            dsimp only at opll
            refine SL.bool (d := 44) (x := (decide (((i : Nat) : Int) < ((xl3.length : Nat) : Int)))) (y := true) h27 (by kernel_rfl) ?_
            refine SL.nil ?_
            refine SC.next ?_
            refine SC.yes (by kernel_rfl) ?_
            refine SC.skip (by kernel_rfl) ?_
            refine SC.next ?_
            refine SC.seq (by kernel_rfl) ?_
            refine SC.block (i := 1) (by kernel_rfl) ?_
            refine SC.seq (by kernel_rfl) ?_
            refine SC.region [0] (by kernel_rfl) (by kernel_rfl) ?_
            refine SL.run (d := 7) (v := .bool false) (by kernel_rfl) ?_
            refine SL.nil ?_
            refine SC.next ?_
            refine SC.seq (by kernel_rfl) ?_
            refine SC.seq (by kernel_rfl) ?_
            refine SC.region [0] (by kernel_rfl) (by kernel_rfl) ?_
            refine SL.run (d := 8) (v := .int .i64 0) (by kernel_rfl) ?_
            refine SL.nil ?_
            refine SC.next ?_
            refine SC.block (i := 2) (by kernel_rfl) ?_
            refine SC.loopA (X := Nat × Bool) (fun x => [(2, .pointer (some ⟨g1, 0, none⟩)), (3, .pointer (some ⟨g5, 0, none⟩)), (4, .bool false), (5, .slice ta xl2.length tc), (6, .int .i64 ((i : Nat) : Int)), (7, .bool x.2), (8, .int .i64 ((x.1 : Nat) : Int)), (40, .int .i64 ((i : Nat) : Int)), (41, .pointer (some ⟨g1, 3, none⟩)), (42, .slice (some ⟨ob, oo, none⟩) xl3.length xc3), (43, .int .i64 ((xl3.length : Nat) : Int)), (44, .bool true)]) (fun x wr => Mem w wr ([bx g5 #[.string yn, .slice ya1 yl1.length yc1, .slice ya2 yl2.length yc2, .slice ya3 yl3.length yc3] 26, bx g1 #[.string xn, .slice xa1 xl1.length xc1, .slice xa2 xl2.length xc2, .slice (some ⟨ob, oo, none⟩) xl3.length xc3] 26]) ∧ (x.1 ≤ yl3.length ∧ (x.2 = true ↔ FoundS DX DY (⟨ocl, on, ⟨om, oi⟩, ov, ⟨opa, opc, opl⟩⟩ : FO) yl3 x.1)) ∧ Below wt.heap.size wt wr) (fun x => yl3.length - x.1) (PanOk.block (PanOk.seq (PanOk.block (PanOk.seq pn24)))) (by kernel_rfl) ⟨0, false⟩ (by kernel_rfl) ⟨M26, ⟨Nat.zero_le _, no_iff (fun ⟨j, _, h, _⟩ => Nat.not_lt_zero _ h)⟩, hbt⟩ ?_
            rintro ⟨k, fnd⟩ w33 ⟨M34, hI28, hbt⟩ Q29 ag30 ex31 pn32
            replace M34 : Mem w w33 ([bx g5 #[.string yn, .slice ya1 yl1.length yc1, .slice ya2 yl2.length yc2, .slice ya3 yl3.length yc3] 26, bx g1 #[.string xn, .slice xa1 xl1.length xc1, .slice xa2 xl2.length xc2, .slice (some ⟨ob, oo, none⟩) xl3.length xc3] 26]) := M34
            replace hI28 : k ≤ yl3.length ∧ (fnd = true ↔ FoundS DX DY (⟨ocl, on, ⟨om, oi⟩, ov, ⟨opa, opc, opl⟩⟩ : FO) yl3 k) := hI28
            show SC _ _ _ _ _ [(2, .pointer (some ⟨g1, 0, none⟩)), (3, .pointer (some ⟨g5, 0, none⟩)), (4, .bool false), (5, .slice ta xl2.length tc), (6, .int .i64 ((i : Nat) : Int)), (7, .bool fnd), (8, .int .i64 ((k : Nat) : Int)), (40, .int .i64 ((i : Nat) : Int)), (41, .pointer (some ⟨g1, 3, none⟩)), (42, .slice (some ⟨ob, oo, none⟩) xl3.length xc3), (43, .int .i64 ((xl3.length : Nat) : Int)), (44, .bool true)] _
            obtain ⟨hk, hfnd⟩ := hI28
            refine SC.seq (by kernel_rfl) ?_
            refine SC.seq (by kernel_rfl) ?_
            refine SC.region [0, 1, 2, 3, 4] (by kernel_rfl) (by kernel_rfl) ?_
            refine SL.run (d := 47) (v := .int .i64 ((k : Nat) : Int)) (by kernel_rfl) ?_
            refine SL.run (d := 48) (v := .pointer (some ⟨g5, 3, none⟩)) (by kernel_rfl) ?_
            refine SL.load (d := 49) (t := 24) (a := .pointer (some ⟨g5, 3, none⟩)) (v := .slice ya3 yl3.length yc3) (by kernel_rfl) (M34.ldCell 0 rfl (j := 3) (v := .slice ya3 yl3.length yc3) rfl Try.underlying24 rfl) ?_
            refine SL.builtin (d := 50) (b := .len) (ts := [24]) (ty := 3) (vs := [.slice ya3 yl3.length yc3]) (v := .int .i64 ((yl3.length : Nat) : Int)) (by kernel_rfl) (fun k => run_len Try.underlying24 rfl k) ?_
            rcases Bool.eq_false_or_eq_true (decide (((k : Nat) : Int) < ((yl3.length : Nat) : Int))) with h35 | h35
            · skip
              have ph35 : ((k : Nat) : Int) < ((yl3.length : Nat) : Int) := of_decide_eq_true h35
              obtain ⟨qb, qo, ⟨qcl, qn, ⟨qm, qi⟩, qv, ⟨qpa, qpc, qpl⟩⟩, rfl, hqb, hq, hqok, hqc⟩ := Rows.elem (hy.objs : Rows foD w ⟨ya3, yc3, yl3⟩) (i := k) (by omega)
              have loq := leads_obj hmy (show FO.d ⟨qcl, qn, ⟨qm, qi⟩, qv, ⟨qpa, qpc, qpl⟩⟩ ∈ yl3.map FO.d from List.mem_map_of_mem (List.mem_of_getElem? hq))
              have hqpr : Rows prmD w ⟨qpa, qpc, qpl⟩ := hqok.2.2.2.2
              have qpll := hqpr.len
              dsimp only at qpll
              refine SL.bool (d := 51) (x := (decide (((k : Nat) : Int) < ((yl3.length : Nat) : Int)))) (y := true) h35 (by kernel_rfl) ?_
              refine SL.nil ?_
              refine SC.next ?_
              refine SC.yes (by kernel_rfl) ?_
              refine SC.skip (by kernel_rfl) ?_
              refine SC.next ?_
              refine SC.seq (by kernel_rfl) ?_
              refine SC.block (i := 3) (by kernel_rfl) ?_
              refine SC.seqJ (X := Nat × Nat) (fun x => [(2, .pointer (some ⟨g1, 0, none⟩)), (3, .pointer (some ⟨g5, 0, none⟩)), (4, .bool false), (5, .slice ta xl2.length tc), (6, .int .i64 ((i : Nat) : Int)), (7, .bool fnd), (8, .int .i64 ((k : Nat) : Int)), (9, .pointer (some ⟨x.1, 0, none⟩)), (10, .pointer (some ⟨x.2, 0, none⟩)), (40, .int .i64 ((i : Nat) : Int)), (41, .pointer (some ⟨g1, 3, none⟩)), (42, .slice (some ⟨ob, oo, none⟩) xl3.length xc3), (43, .int .i64 ((xl3.length : Nat) : Int)), (44, .bool true), (47, .int .i64 ((k : Nat) : Int)), (48, .pointer (some ⟨g5, 3, none⟩)), (49, .slice (some ⟨qb, qo, none⟩) yl3.length yc3), (50, .int .i64 ((yl3.length : Nat) : Int)), (51, .bool true), (54, .pointer (some ⟨g1, 3, none⟩)), (55, .slice (some ⟨ob, oo, none⟩) xl3.length xc3), (56, .int .i64 ((i : Nat) : Int)), (57, .pointer (some ⟨ob, oo + i * 6, none⟩)), (58, .agg #[.int .i64 ocl, .string on, .int .i64 om, .int .i64 oi, .int .u32 ov, .slice opa opl.length opc]), (59, .pointer (some ⟨g5, 3, none⟩)), (60, .slice (some ⟨qb, qo, none⟩) yl3.length yc3), (61, .int .i64 ((k : Nat) : Int)), (62, .pointer (some ⟨qb, qo + k * 6, none⟩)), (63, .agg #[.int .i64 qcl, .string qn, .int .i64 qm, .int .i64 qi, .int .u32 qv, .slice qpa qpl.length qpc])]) (fun x wr => Mem w wr ([bx x.2 #[.int .i64 qcl, .string qn, .int .i64 qm, .int .i64 qi, .int .u32 qv, .slice qpa qpl.length qpc] 37, bx x.1 #[.int .i64 ocl, .string on, .int .i64 om, .int .i64 oi, .int .u32 ov, .slice opa opl.length opc] 37, bx g5 #[.string yn, .slice ya1 yl1.length yc1, .slice ya2 yl2.length yc2, .slice (some ⟨qb, qo, none⟩) yl3.length yc3] 26, bx g1 #[.string xn, .slice xa1 xl1.length xc1, .slice xa2 xl2.length xc2, .slice (some ⟨ob, oo, none⟩) xl3.length xc3] 26]) ∧ (True) ∧ Below wt.heap.size wt wr) (PanOk.block (PanOk.seq pn32)) (by kernel_rfl) ?_ ?_
              · skip
                rintro ⟨g40, g46⟩ w63 ⟨M64, hI62, hbt⟩
                replace M64 : Mem w w63 ([bx g46 #[.int .i64 qcl, .string qn, .int .i64 qm, .int .i64 qi, .int .u32 qv, .slice qpa qpl.length qpc] 37, bx g40 #[.int .i64 ocl, .string on, .int .i64 om, .int .i64 oi, .int .u32 ov, .slice opa opl.length opc] 37, bx g5 #[.string yn, .slice ya1 yl1.length yc1, .slice ya2 yl2.length yc2, .slice (some ⟨qb, qo, none⟩) yl3.length yc3] 26, bx g1 #[.string xn, .slice xa1 xl1.length xc1, .slice xa2 xl2.length xc2, .slice (some ⟨ob, oo, none⟩) xl3.length xc3] 26]) := M64
                replace hI62 : True := hI62
                show SC _ _ _ _ _ [(2, .pointer (some ⟨g1, 0, none⟩)), (3, .pointer (some ⟨g5, 0, none⟩)), (4, .bool false), (5, .slice ta xl2.length tc), (6, .int .i64 ((i : Nat) : Int)), (7, .bool fnd), (8, .int .i64 ((k : Nat) : Int)), (9, .pointer (some ⟨g40, 0, none⟩)), (10, .pointer (some ⟨g46, 0, none⟩)), (40, .int .i64 ((i : Nat) : Int)), (41, .pointer (some ⟨g1, 3, none⟩)), (42, .slice (some ⟨ob, oo, none⟩) xl3.length xc3), (43, .int .i64 ((xl3.length : Nat) : Int)), (44, .bool true), (47, .int .i64 ((k : Nat) : Int)), (48, .pointer (some ⟨g5, 3, none⟩)), (49, .slice (some ⟨qb, qo, none⟩) yl3.length yc3), (50, .int .i64 ((yl3.length : Nat) : Int)), (51, .bool true), (54, .pointer (some ⟨g1, 3, none⟩)), (55, .slice (some ⟨ob, oo, none⟩) xl3.length xc3), (56, .int .i64 ((i : Nat) : Int)), (57, .pointer (some ⟨ob, oo + i * 6, none⟩)), (58, .agg #[.int .i64 ocl, .string on, .int .i64 om, .int .i64 oi, .int .u32 ov, .slice opa opl.length opc]), (59, .pointer (some ⟨g5, 3, none⟩)), (60, .slice (some ⟨qb, qo, none⟩) yl3.length yc3), (61, .int .i64 ((k : Nat) : Int)), (62, .pointer (some ⟨qb, qo + k * 6, none⟩)), (63, .agg #[.int .i64 qcl, .string qn, .int .i64 qm, .int .i64 qi, .int .u32 qv, .slice qpa qpl.length qpc])] _
                refine SC.seqJ (X := Bool) (fun x => [(2, .pointer (some ⟨g1, 0, none⟩)), (3, .pointer (some ⟨g5, 0, none⟩)), (4, .bool false), (5, .slice ta xl2.length tc), (6, .int .i64 ((i : Nat) : Int)), (7, .bool fnd), (8, .int .i64 ((k : Nat) : Int)), (9, .pointer (some ⟨g40, 0, none⟩)), (10, .pointer (some ⟨g46, 0, none⟩)), (11, .bool x), (40, .int .i64 ((i : Nat) : Int)), (41, .pointer (some ⟨g1, 3, none⟩)), (42, .slice (some ⟨ob, oo, none⟩) xl3.length xc3), (43, .int .i64 ((xl3.length : Nat) : Int)), (44, .bool true), (47, .int .i64 ((k : Nat) : Int)), (48, .pointer (some ⟨g5, 3, none⟩)), (49, .slice (some ⟨qb, qo, none⟩) yl3.length yc3), (50, .int .i64 ((yl3.length : Nat) : Int)), (51, .bool true), (54, .pointer (some ⟨g1, 3, none⟩)), (55, .slice (some ⟨ob, oo, none⟩) xl3.length xc3), (56, .int .i64 ((i : Nat) : Int)), (57, .pointer (some ⟨ob, oo + i * 6, none⟩)), (58, .agg #[.int .i64 ocl, .string on, .int .i64 om, .int .i64 oi, .int .u32 ov, .slice opa opl.length opc]), (59, .pointer (some ⟨g5, 3, none⟩)), (60, .slice (some ⟨qb, qo, none⟩) yl3.length yc3), (61, .int .i64 ((k : Nat) : Int)), (62, .pointer (some ⟨qb, qo + k * 6, none⟩)), (63, .agg #[.int .i64 qcl, .string qn, .int .i64 qm, .int .i64 qi, .int .u32 qv, .slice qpa qpl.length qpc])]) (fun x wr => Mem w wr ([bx g46 #[.int .i64 qcl, .string qn, .int .i64 qm, .int .i64 qi, .int .u32 qv, .slice qpa qpl.length qpc] 37, bx g40 #[.int .i64 ocl, .string on, .int .i64 om, .int .i64 oi, .int .u32 ov, .slice opa opl.length opc] 37, bx g5 #[.string yn, .slice ya1 yl1.length yc1, .slice ya2 yl2.length yc2, .slice (some ⟨qb, qo, none⟩) yl3.length yc3] 26, bx g1 #[.string xn, .slice xa1 xl1.length xc1, .slice xa2 xl2.length xc2, .slice (some ⟨ob, oo, none⟩) xl3.length xc3] 26]) ∧ ((x = true ↔ HeadS DX DY (⟨ocl, on, ⟨om, oi⟩, ov, ⟨opa, opc, opl⟩⟩ : FO) (⟨qcl, qn, ⟨qm, qi⟩, qv, ⟨qpa, qpc, qpl⟩⟩ : FO))) ∧ Below wt.heap.size wt wr) (PanOk.block (PanOk.seq pn32)) (by kernel_rfl) ?_ ?_
                · skip
                  rintro sm w66 ⟨M67, hI65, hbt⟩
                  replace M67 : Mem w w66 ([bx g46 #[.int .i64 qcl, .string qn, .int .i64 qm, .int .i64 qi, .int .u32 qv, .slice qpa qpl.length qpc] 37, bx g40 #[.int .i64 ocl, .string on, .int .i64 om, .int .i64 oi, .int .u32 ov, .slice opa opl.length opc] 37, bx g5 #[.string yn, .slice ya1 yl1.length yc1, .slice ya2 yl2.length yc2, .slice (some ⟨qb, qo, none⟩) yl3.length yc3] 26, bx g1 #[.string xn, .slice xa1 xl1.length xc1, .slice xa2 xl2.length xc2, .slice (some ⟨ob, oo, none⟩) xl3.length xc3] 26]) := M67
                  replace hI65 : (sm = true ↔ HeadS DX DY (⟨ocl, on, ⟨om, oi⟩, ov, ⟨opa, opc, opl⟩⟩ : FO) (⟨qcl, qn, ⟨qm, qi⟩, qv, ⟨qpa, qpc, qpl⟩⟩ : FO)) := hI65
                  show SC _ _ _ _ _ [(2, .pointer (some ⟨g1, 0, none⟩)), (3, .pointer (some ⟨g5, 0, none⟩)), (4, .bool false), (5, .slice ta xl2.length tc), (6, .int .i64 ((i : Nat) : Int)), (7, .bool fnd), (8, .int .i64 ((k : Nat) : Int)), (9, .pointer (some ⟨g40, 0, none⟩)), (10, .pointer (some ⟨g46, 0, none⟩)), (11, .bool sm), (40, .int .i64 ((i : Nat) : Int)), (41, .pointer (some ⟨g1, 3, none⟩)), (42, .slice (some ⟨ob, oo, none⟩) xl3.length xc3), (43, .int .i64 ((xl3.length : Nat) : Int)), (44, .bool true), (47, .int .i64 ((k : Nat) : Int)), (48, .pointer (some ⟨g5, 3, none⟩)), (49, .slice (some ⟨qb, qo, none⟩) yl3.length yc3), (50, .int .i64 ((yl3.length : Nat) : Int)), (51, .bool true), (54, .pointer (some ⟨g1, 3, none⟩)), (55, .slice (some ⟨ob, oo, none⟩) xl3.length xc3), (56, .int .i64 ((i : Nat) : Int)), (57, .pointer (some ⟨ob, oo + i * 6, none⟩)), (58, .agg #[.int .i64 ocl, .string on, .int .i64 om, .int .i64 oi, .int .u32 ov, .slice opa opl.length opc]), (59, .pointer (some ⟨g5, 3, none⟩)), (60, .slice (some ⟨qb, qo, none⟩) yl3.length yc3), (61, .int .i64 ((k : Nat) : Int)), (62, .pointer (some ⟨qb, qo + k * 6, none⟩)), (63, .agg #[.int .i64 qcl, .string qn, .int .i64 qm, .int .i64 qi, .int .u32 qv, .slice qpa qpl.length qpc])] _
                  have hsm := hI65
                  refine SC.seq (by kernel_rfl) ?_
                  refine SC.seq (by kernel_rfl) ?_
                  refine SC.region [0] (by kernel_rfl) (by kernel_rfl) ?_
                  refine SL.run (d := 12) (v := .int .i64 0) (by kernel_rfl) ?_
                  refine SL.nil ?_
                  refine SC.next ?_
                  refine SC.block (i := 4) (by kernel_rfl) ?_
                  have hsm1 : sm = true ↔ HeadS DX DY (⟨ocl, on, ⟨om, oi⟩, ov, ⟨opa, opc, opl⟩⟩ : FO) (⟨qcl, qn, ⟨qm, qi⟩, qv, ⟨qpa, qpc, qpl⟩⟩ : FO) ∧ PrmS DX DY (⟨ocl, on, ⟨om, oi⟩, ov, ⟨opa, opc, opl⟩⟩ : FO) (⟨qcl, qn, ⟨qm, qi⟩, qv, ⟨qpa, qpc, qpl⟩⟩ : FO) 0 := ⟨fun q => ⟨hsm.1 q, prm_zero⟩, fun q => hsm.2 q.1⟩
                  refine SC.loopA (X := Nat × Bool) (fun x => [(2, .pointer (some ⟨g1, 0, none⟩)), (3, .pointer (some ⟨g5, 0, none⟩)), (4, .bool false), (5, .slice ta xl2.length tc), (6, .int .i64 ((i : Nat) : Int)), (7, .bool fnd), (8, .int .i64 ((k : Nat) : Int)), (9, .pointer (some ⟨g40, 0, none⟩)), (10, .pointer (some ⟨g46, 0, none⟩)), (11, .bool x.2), (12, .int .i64 ((x.1 : Nat) : Int)), (40, .int .i64 ((i : Nat) : Int)), (41, .pointer (some ⟨g1, 3, none⟩)), (42, .slice (some ⟨ob, oo, none⟩) xl3.length xc3), (43, .int .i64 ((xl3.length : Nat) : Int)), (44, .bool true), (47, .int .i64 ((k : Nat) : Int)), (48, .pointer (some ⟨g5, 3, none⟩)), (49, .slice (some ⟨qb, qo, none⟩) yl3.length yc3), (50, .int .i64 ((yl3.length : Nat) : Int)), (51, .bool true), (54, .pointer (some ⟨g1, 3, none⟩)), (55, .slice (some ⟨ob, oo, none⟩) xl3.length xc3), (56, .int .i64 ((i : Nat) : Int)), (57, .pointer (some ⟨ob, oo + i * 6, none⟩)), (58, .agg #[.int .i64 ocl, .string on, .int .i64 om, .int .i64 oi, .int .u32 ov, .slice opa opl.length opc]), (59, .pointer (some ⟨g5, 3, none⟩)), (60, .slice (some ⟨qb, qo, none⟩) yl3.length yc3), (61, .int .i64 ((k : Nat) : Int)), (62, .pointer (some ⟨qb, qo + k * 6, none⟩)), (63, .agg #[.int .i64 qcl, .string qn, .int .i64 qm, .int .i64 qi, .int .u32 qv, .slice qpa qpl.length qpc])]) (fun x wr => Mem w wr ([bx g46 #[.int .i64 qcl, .string qn, .int .i64 qm, .int .i64 qi, .int .u32 qv, .slice qpa qpl.length qpc] 37, bx g40 #[.int .i64 ocl, .string on, .int .i64 om, .int .i64 oi, .int .u32 ov, .slice opa opl.length opc] 37, bx g5 #[.string yn, .slice ya1 yl1.length yc1, .slice ya2 yl2.length yc2, .slice (some ⟨qb, qo, none⟩) yl3.length yc3] 26, bx g1 #[.string xn, .slice xa1 xl1.length xc1, .slice xa2 xl2.length xc2, .slice (some ⟨ob, oo, none⟩) xl3.length xc3] 26]) ∧ (x.1 ≤ opl.length ∧ (x.2 = true ↔ HeadS DX DY (⟨ocl, on, ⟨om, oi⟩, ov, ⟨opa, opc, opl⟩⟩ : FO) (⟨qcl, qn, ⟨qm, qi⟩, qv, ⟨qpa, qpc, qpl⟩⟩ : FO) ∧ PrmS DX DY (⟨ocl, on, ⟨om, oi⟩, ov, ⟨opa, opc, opl⟩⟩ : FO) (⟨qcl, qn, ⟨qm, qi⟩, qv, ⟨qpa, qpc, qpl⟩⟩ : FO) x.1)) ∧ Below wt.heap.size wt wr) (fun x => opl.length - x.1) (PanOk.block (PanOk.seq (PanOk.block (PanOk.seq pn32)))) (by kernel_rfl) ⟨0, sm⟩ (by kernel_rfl) ⟨M67, ⟨Nat.zero_le _, hsm1⟩, hbt⟩ ?_
                  rintro ⟨j, sm2⟩ w73 ⟨M74, hI68, hbt⟩ Q69 ag70 ex71 pn72
                  replace M74 : Mem w w73 ([bx g46 #[.int .i64 qcl, .string qn, .int .i64 qm, .int .i64 qi, .int .u32 qv, .slice qpa qpl.length qpc] 37, bx g40 #[.int .i64 ocl, .string on, .int .i64 om, .int .i64 oi, .int .u32 ov, .slice opa opl.length opc] 37, bx g5 #[.string yn, .slice ya1 yl1.length yc1, .slice ya2 yl2.length yc2, .slice (some ⟨qb, qo, none⟩) yl3.length yc3] 26, bx g1 #[.string xn, .slice xa1 xl1.length xc1, .slice xa2 xl2.length xc2, .slice (some ⟨ob, oo, none⟩) xl3.length xc3] 26]) := M74
                  replace hI68 : j ≤ opl.length ∧ (sm2 = true ↔ HeadS DX DY (⟨ocl, on, ⟨om, oi⟩, ov, ⟨opa, opc, opl⟩⟩ : FO) (⟨qcl, qn, ⟨qm, qi⟩, qv, ⟨qpa, qpc, qpl⟩⟩ : FO) ∧ PrmS DX DY (⟨ocl, on, ⟨om, oi⟩, ov, ⟨opa, opc, opl⟩⟩ : FO) (⟨qcl, qn, ⟨qm, qi⟩, qv, ⟨qpa, qpc, qpl⟩⟩ : FO) j) := hI68
                  show SC _ _ _ _ _ [(2, .pointer (some ⟨g1, 0, none⟩)), (3, .pointer (some ⟨g5, 0, none⟩)), (4, .bool false), (5, .slice ta xl2.length tc), (6, .int .i64 ((i : Nat) : Int)), (7, .bool fnd), (8, .int .i64 ((k : Nat) : Int)), (9, .pointer (some ⟨g40, 0, none⟩)), (10, .pointer (some ⟨g46, 0, none⟩)), (11, .bool sm2), (12, .int .i64 ((j : Nat) : Int)), (40, .int .i64 ((i : Nat) : Int)), (41, .pointer (some ⟨g1, 3, none⟩)), (42, .slice (some ⟨ob, oo, none⟩) xl3.length xc3), (43, .int .i64 ((xl3.length : Nat) : Int)), (44, .bool true), (47, .int .i64 ((k : Nat) : Int)), (48, .pointer (some ⟨g5, 3, none⟩)), (49, .slice (some ⟨qb, qo, none⟩) yl3.length yc3), (50, .int .i64 ((yl3.length : Nat) : Int)), (51, .bool true), (54, .pointer (some ⟨g1, 3, none⟩)), (55, .slice (some ⟨ob, oo, none⟩) xl3.length xc3), (56, .int .i64 ((i : Nat) : Int)), (57, .pointer (some ⟨ob, oo + i * 6, none⟩)), (58, .agg #[.int .i64 ocl, .string on, .int .i64 om, .int .i64 oi, .int .u32 ov, .slice opa opl.length opc]), (59, .pointer (some ⟨g5, 3, none⟩)), (60, .slice (some ⟨qb, qo, none⟩) yl3.length yc3), (61, .int .i64 ((k : Nat) : Int)), (62, .pointer (some ⟨qb, qo + k * 6, none⟩)), (63, .agg #[.int .i64 qcl, .string qn, .int .i64 qm, .int .i64 qi, .int .u32 qv, .slice qpa qpl.length qpc])] _
                  obtain ⟨hj, hsm2⟩ := hI68
                  refine SC.seq (by kernel_rfl) ?_
                  refine SC.seq (by kernel_rfl) ?_
                  refine SC.region [0, 1, 2, 3, 4, 5, 6, 7] (by kernel_rfl) (by kernel_rfl) ?_
                  refine SL.run (d := 102) (v := .int .i64 ((j : Nat) : Int)) (by kernel_rfl) ?_
                  refine SL.run (d := 103) (v := .pointer (some ⟨g40, 5, none⟩)) (by kernel_rfl) ?_
                  refine SL.load (d := 104) (t := 35) (a := .pointer (some ⟨g40, 5, none⟩)) (v := .slice opa opl.length opc) (by kernel_rfl) (M74.ldCell 1 rfl (j := 5) (v := .slice opa opl.length opc) rfl Try.underlying35 rfl) ?_
                  refine SL.builtin (d := 105) (b := .len) (ts := [35]) (ty := 3) (vs := [.slice opa opl.length opc]) (v := .int .i64 ((opl.length : Nat) : Int)) (by kernel_rfl) (fun k => run_len Try.underlying35 rfl k) ?_
                  rcases Bool.eq_false_or_eq_true (decide (((j : Nat) : Int) < ((opl.length : Nat) : Int))) with h75 | h75
                  · skip
                    have ph75 : ((j : Nat) : Int) < ((opl.length : Nat) : Int) := of_decide_eq_true h75
                    refine SL.bool (d := 106) (x := (decide (((j : Nat) : Int) < ((opl.length : Nat) : Int)))) (y := true) h75 (by kernel_rfl) ?_
                    refine SL.run (d := 107) (v := .bool true) (by kernel_rfl) ?_
                    refine SL.run (d := 108) (v := .bool sm2) (by kernel_rfl) ?_
                    refine SL.pick (d := 109) (v := .bool sm2) (by kernel_rfl) ?_
                    refine SL.nil ?_
                    refine SC.next ?_
                    cases sm2
                    · skip
                      refine SC.no (by kernel_rfl) ?_
                      refine SC.exit (i := 4) (by kernel_rfl) ?_
                      refine SQ.seqExit (by nofun) ?_
                      refine ex71 (by nofun) ?_
                      refine SQ.blockHere ?_
                      refine SC.next ?_
                      have hfull : false = true ↔ SameS DX DY (⟨ocl, on, ⟨om, oi⟩, ov, ⟨opa, opc, opl⟩⟩ : FO) (⟨qcl, qn, ⟨qm, qi⟩, qv, ⟨qpa, qpc, qpl⟩⟩ : FO) := by
                        exact no_iff (fun q => by have q2 := (same_iff (j := opl.length) (Nat.le_refl _)).2 q; exact Bool.noConfusion (hsm2.2 ⟨q2.1, fun k u v hk hu hv => q2.2 k u v (by omega) hu hv⟩))
                      refine SC.region [0, 1, 2, 3, 4] (by kernel_rfl) (by kernel_rfl) ?_
                      refine SL.run (d := 143) (v := .bool fnd) (by kernel_rfl) ?_
                      refine SL.run (d := 144) (v := .bool fnd) (by kernel_rfl) ?_
                      cases fnd
                      · skip
                        refine SL.run (d := 145) (v := .bool false) (by kernel_rfl) ?_
                        refine SL.pick (d := 146) (v := .bool false) (by kernel_rfl) ?_
                        refine SL.run (d := 7) (v := .bool false) (by kernel_rfl) ?_
                        refine SL.nil ?_
                        have hfnd2 : false = true ↔ FoundS DX DY (⟨ocl, on, ⟨om, oi⟩, ov, ⟨opa, opc, opl⟩⟩ : FO) yl3 (k + 1) := by
                          rw [found_step hq]
                          refine no_iff ?_
                          rintro (q | q)
                          · exact Bool.noConfusion (hfnd.2 q)
                          · exact Bool.noConfusion (hfull.2 q)
                        refine SQ.blockNormal ?_
                        refine SC.next ?_
                        refine SC.region [0, 1, 2] (by kernel_rfl) (by kernel_rfl) ?_
                        refine SL.run (d := 52) (v := .int .i64 ((k : Nat) : Int)) (by kernel_rfl) ?_
                        refine SL.int (d := 53) (q := .i64) (x := IntKind.wrap .i64 (((k : Nat) : Int) + (1 : Int))) (y := ((k + 1 : Nat) : Int)) (wr64 (by omega) (by omega) (by omega)) (by kernel_rfl) ?_
                        refine SL.run (d := 8) (v := .int .i64 ((k + 1 : Nat) : Int)) (by kernel_rfl) ?_
                        refine SL.nil ?_
                        have M76 := M74.keep [2, 3] rfl (L' := [bx g5 #[.string yn, .slice ya1 yl1.length yc1, .slice ya2 yl2.length yc2, .slice (some ⟨qb, qo, none⟩) yl3.length yc3] 26, bx g1 #[.string xn, .slice xa1 xl1.length xc1, .slice xa2 xl2.length xc2, .slice (some ⟨ob, oo, none⟩) xl3.length xc3] 26]) rfl
                        exact ag30 ⟨k + 1, false⟩ (by kernel_rfl) ⟨M76, ⟨by omega, hfnd2⟩, hbt⟩ (by first | omega | (dsimp only; omega))
                      · skip
                        refine SL.offs [2] (is := [3, 4]) rfl (by kernel_rfl) ?_
                        refine SL.pick (d := 146) (v := .bool true) (by kernel_rfl) ?_
                        refine SL.run (d := 7) (v := .bool true) (by kernel_rfl) ?_
                        refine SL.nil ?_
                        have hfnd2 : true = true ↔ FoundS DX DY (⟨ocl, on, ⟨om, oi⟩, ov, ⟨opa, opc, opl⟩⟩ : FO) yl3 (k + 1) := by
                          rw [found_step hq]
                          first | exact yes_iff (.inl (hfnd.1 rfl)) | exact yes_iff (.inr (hfull.1 rfl))
                        refine SQ.blockNormal ?_
                        refine SC.next ?_
                        refine SC.region [0, 1, 2] (by kernel_rfl) (by kernel_rfl) ?_
                        refine SL.run (d := 52) (v := .int .i64 ((k : Nat) : Int)) (by kernel_rfl) ?_
                        refine SL.int (d := 53) (q := .i64) (x := IntKind.wrap .i64 (((k : Nat) : Int) + (1 : Int))) (y := ((k + 1 : Nat) : Int)) (wr64 (by omega) (by omega) (by omega)) (by kernel_rfl) ?_
                        refine SL.run (d := 8) (v := .int .i64 ((k + 1 : Nat) : Int)) (by kernel_rfl) ?_
                        refine SL.nil ?_
                        have M77 := M74.keep [2, 3] rfl (L' := [bx g5 #[.string yn, .slice ya1 yl1.length yc1, .slice ya2 yl2.length yc2, .slice (some ⟨qb, qo, none⟩) yl3.length yc3] 26, bx g1 #[.string xn, .slice xa1 xl1.length xc1, .slice xa2 xl2.length xc2, .slice (some ⟨ob, oo, none⟩) xl3.length xc3] 26]) rfl
                        exact ag30 ⟨k + 1, true⟩ (by kernel_rfl) ⟨M77, ⟨by omega, hfnd2⟩, hbt⟩ (by first | omega | (dsimp only; omega))
                    · skip
                      have hhd := (hsm2.1 rfl).1
                      have hjq : j < qpl.length := by have : opl.length = qpl.length := hhd.2.2.2.2; omega
                      obtain ⟨pb, po, ⟨pv, ⟨pm, pi⟩⟩, rfl, hpb, hpp, _, hpc⟩ := Rows.elem hopr (i := j) (by first | omega | exact hjq)
                      obtain ⟨rb, ro, ⟨rv, ⟨rm, ri⟩⟩, rfl, hrb, hpq, _, hrc⟩ := Rows.elem hqpr (i := j) (by first | omega | exact hjq)
                      refine SC.yes (by kernel_rfl) ?_
                      refine SC.skip (by kernel_rfl) ?_
                      refine SC.next ?_
                      refine SC.seq (by kernel_rfl) ?_
                      refine SC.block (i := 5) (by kernel_rfl) ?_
                      refine SC.mix [([0, 1, 2, 3, 4, 5, 6, 7, 8, 9, 10, 11, 12, 13, 14, 15, 16, 17, 18, 19, 20, 21, 22, 23, 24, 25, 26, 27, 28], 29)] [30, 31] (by kernel_rfl) (by kernel_rfl) (by kernel_rfl) (PanOk.block (PanOk.seq pn72)) ?_
                      intro w78 hb79
                      have M80 := M74.call hb79
                      replace hbt := bel_then hbt hb79
                      refine SM.step ?_
                      refine SU.run (d := 112) (v := .pointer (some ⟨g40, 5, none⟩)) (fun y hy => by kernel_rfl) ?_
                      refine SU.load (d := 113) (t := 35) (b := .pointer (some ⟨g40, 5, none⟩)) (v := .slice (some ⟨pb, po, none⟩) opl.length opc) (by kernel_rfl) (fun y hy => ((M80.call hy).ldCell 1 rfl (j := 5) (v := .slice (some ⟨pb, po, none⟩) opl.length opc) rfl Try.underlying35 rfl)) ?_
                      refine SU.run (d := 114) (v := .int .i64 ((j : Nat) : Int)) (fun y hy => by kernel_rfl) ?_
                      refine SU.index (d := 115) (t := 35) (e := 66) (b := pb) (o := po) (len := opl.length) (cap := opc) (sz := 3) (k := .i64) (m := ((j : Nat) : Int)) j (by kernel_rfl) Try.underlying35 (by kernel_rfl) rfl (by omega) ?_
                      refine SU.run (d := 116) (v := .pointer (some ⟨pb, po + j * 3, none⟩)) (fun y hy => by kernel_rfl) ?_
                      refine SU.load (d := 117) (t := 4) (b := .pointer (some ⟨pb, po + j * 3, none⟩)) (v := .bool pv) (by kernel_rfl) (fun y hy => (ld_one ((M80.call hy).old hpb (hpc 0 _ rfl)) Try.underlying4 rfl)) ?_
                      refine SU.run (d := 118) (v := .pointer (some ⟨g46, 5, none⟩)) (fun y hy => by kernel_rfl) ?_
                      refine SU.load (d := 119) (t := 35) (b := .pointer (some ⟨g46, 5, none⟩)) (v := .slice (some ⟨rb, ro, none⟩) qpl.length qpc) (by kernel_rfl) (fun y hy => ((M80.call hy).ldCell 0 rfl (j := 5) (v := .slice (some ⟨rb, ro, none⟩) qpl.length qpc) rfl Try.underlying35 rfl)) ?_
                      refine SU.run (d := 120) (v := .int .i64 ((j : Nat) : Int)) (fun y hy => by kernel_rfl) ?_
                      refine SU.index (d := 121) (t := 35) (e := 66) (b := rb) (o := ro) (len := qpl.length) (cap := qpc) (sz := 3) (k := .i64) (m := ((j : Nat) : Int)) j (by kernel_rfl) Try.underlying35 (by kernel_rfl) rfl (by omega) ?_
                      refine SU.run (d := 122) (v := .pointer (some ⟨rb, ro + j * 3, none⟩)) (fun y hy => by kernel_rfl) ?_
                      refine SU.load (d := 123) (t := 4) (b := .pointer (some ⟨rb, ro + j * 3, none⟩)) (v := .bool rv) (by kernel_rfl) (fun y hy => (ld_one ((M80.call hy).old hrb (hrc 0 _ rfl)) Try.underlying4 rfl)) ?_
                      cases pv
                      · skip
                        cases rv
                        · skip
                          refine SU.run (d := 124) (v := .bool true) (fun y hy => by kernel_rfl) ?_
                          refine SU.run (d := 125) (v := .bool true) (fun y hy => by kernel_rfl) ?_
                          refine SU.load (d := 126) (t := 26) (b := .pointer (some ⟨g1, 0, none⟩)) (v := .agg #[.string xn, .slice xa1 xl1.length xc1, .slice xa2 xl2.length xc2, .slice (some ⟨ob, oo, none⟩) xl3.length xc3]) (by kernel_rfl) (fun y hy => ((M80.call hy).ldBox 3 rfl Try.underlying26 rfl (by kernel_rfl))) ?_
                          refine SU.run (d := 127) (v := .pointer (some ⟨g40, 5, none⟩)) (fun y hy => by kernel_rfl) ?_
                          refine SU.load (d := 128) (t := 35) (b := .pointer (some ⟨g40, 5, none⟩)) (v := .slice (some ⟨pb, po, none⟩) opl.length opc) (by kernel_rfl) (fun y hy => ((M80.call hy).ldCell 1 rfl (j := 5) (v := .slice (some ⟨pb, po, none⟩) opl.length opc) rfl Try.underlying35 rfl)) ?_
                          refine SU.run (d := 129) (v := .int .i64 ((j : Nat) : Int)) (fun y hy => by kernel_rfl) ?_
                          refine SU.index (d := 130) (t := 35) (e := 66) (b := pb) (o := po) (len := opl.length) (cap := opc) (sz := 3) (k := .i64) (m := ((j : Nat) : Int)) j (by kernel_rfl) Try.underlying35 (by kernel_rfl) rfl (by omega) ?_
                          refine SU.run (d := 131) (v := .pointer (some ⟨pb, po + j * 3 + 1, none⟩)) (fun y hy => by kernel_rfl) ?_
                          refine SU.load (d := 132) (t := 34) (b := .pointer (some ⟨pb, po + j * 3 + 1, none⟩)) (v := .agg #[.int .i64 pm, .int .i64 pi]) (by kernel_rfl) (fun y hy => (ld_oldPart (M80.call hy) hpb hpc 1 (vs := [.int .i64 pm, .int .i64 pi]) rfl Try.underlying34 rfl (by kernel_rfl) rfl)) ?_
                          refine SU.load (d := 133) (t := 26) (b := .pointer (some ⟨g5, 0, none⟩)) (v := .agg #[.string yn, .slice ya1 yl1.length yc1, .slice ya2 yl2.length yc2, .slice (some ⟨qb, qo, none⟩) yl3.length yc3]) (by kernel_rfl) (fun y hy => ((M80.call hy).ldBox 2 rfl Try.underlying26 rfl (by kernel_rfl))) ?_
                          refine SU.run (d := 134) (v := .pointer (some ⟨g46, 5, none⟩)) (fun y hy => by kernel_rfl) ?_
                          refine SU.load (d := 135) (t := 35) (b := .pointer (some ⟨g46, 5, none⟩)) (v := .slice (some ⟨rb, ro, none⟩) qpl.length qpc) (by kernel_rfl) (fun y hy => ((M80.call hy).ldCell 0 rfl (j := 5) (v := .slice (some ⟨rb, ro, none⟩) qpl.length qpc) rfl Try.underlying35 rfl)) ?_
                          refine SU.run (d := 136) (v := .int .i64 ((j : Nat) : Int)) (fun y hy => by kernel_rfl) ?_
                          refine SU.index (d := 137) (t := 35) (e := 66) (b := rb) (o := ro) (len := qpl.length) (cap := qpc) (sz := 3) (k := .i64) (m := ((j : Nat) : Int)) j (by kernel_rfl) Try.underlying35 (by kernel_rfl) rfl (by omega) ?_
                          refine SU.run (d := 138) (v := .pointer (some ⟨rb, ro + j * 3 + 1, none⟩)) (fun y hy => by kernel_rfl) ?_
                          refine SU.load (d := 139) (t := 34) (b := .pointer (some ⟨rb, ro + j * 3 + 1, none⟩)) (v := .agg #[.int .i64 rm, .int .i64 ri]) (by kernel_rfl) (fun y hy => (ld_oldPart (M80.call hy) hrb hrc 1 (vs := [.int .i64 rm, .int .i64 ri]) rfl Try.underlying34 rfl (by kernel_rfl) rfl)) ?_
                          refine SU.run (d := 140) (v := .slice ta xl2.length tc) (fun y hy => by kernel_rfl) ?_
                          refine SU.go ?_
                          refine SL.call (d := 141) (f := 29) (vs := [.agg #[.string xn, .slice xa1 xl1.length xc1, .slice xa2 xl2.length xc2, .slice (some ⟨ob, oo, none⟩) xl3.length xc3], .agg #[.int .i64 pm, .int .i64 pi], .agg #[.string yn, .slice ya1 yl1.length yc1, .slice ya2 yl2.length yc2, .slice (some ⟨qb, qo, none⟩) yl3.length yc3], .agg #[.int .i64 rm, .int .i64 ri], .slice ta xl2.length tc]) (by kernel_rfl) (by kernel_rfl) (once_walk (⟨xn, ⟨xa1, xc1, xl1⟩, ⟨xa2, xc2, xl2⟩, ⟨some ⟨ob, oo, none⟩, xc3, xl3⟩⟩ : Fc) (⟨yn, ⟨ya1, yc1, yl1⟩, ⟨ya2, yc2, yl2⟩, ⟨some ⟨qb, qo, none⟩, yc3, yl3⟩⟩ : Fc) pm pi rm ri ta xl2.length tc yl2.length T w78 (hx.bel M80.bel) (hy.bel M80.bel) (rf_of_leads hmx (lox.2 _ (List.mem_of_getElem? hpp))) (rf_of_leads hmy (loq.2 _ (List.mem_of_getElem? hpq))) (htb.bel hbt)) ?_
                          rintro e w81 ⟨R84, rfl, hR85, hb82⟩
                          refine ⟨_, rfl, ?_⟩
                          have M83 := M80.call hb82
                          replace hbt := bel_then hbt hb82
                          cases R84
                          · skip
                            have phR85 : ¬ (onceP (⟨xn, ⟨xa1, xc1, xl1⟩, ⟨xa2, xc2, xl2⟩, ⟨some ⟨ob, oo, none⟩, xc3, xl3⟩⟩ : Fc).d (⟨yn, ⟨ya1, yc1, yl1⟩, ⟨ya2, yc2, yl2⟩, ⟨some ⟨qb, qo, none⟩, yc3, yl3⟩⟩ : Fc).d (fun i k => T i k = true) ⟨pm, pi⟩ ⟨rm, ri⟩) := fun q => Bool.noConfusion (hR85.2 q)
                            rw [once_eq hT] at phR85
                            refine SL.nil ?_
                            refine SM.back hb82 ?_
                            refine SM.last ?_
                            refine SU.pick (d := 142) (v := .bool false) (by kernel_rfl) ?_
                            refine SU.run (d := 11) (v := .bool false) (fun y hy => by kernel_rfl) ?_
                            refine SU.done ?_
                            refine SQ.blockNormal ?_
                            refine SC.next ?_
                            refine SC.region [0, 1, 2] (by kernel_rfl) (by kernel_rfl) ?_
                            refine SL.run (d := 110) (v := .int .i64 ((j : Nat) : Int)) (by kernel_rfl) ?_
                            refine SL.int (d := 111) (q := .i64) (x := IntKind.wrap .i64 (((j : Nat) : Int) + (1 : Int))) (y := ((j + 1 : Nat) : Int)) (wr64 (by omega) (by omega) (by omega)) (by kernel_rfl) ?_
                            refine SL.run (d := 12) (v := .int .i64 ((j + 1 : Nat) : Int)) (by kernel_rfl) ?_
                            refine SL.nil ?_
                            have hsm3 : false = true ↔ HeadS DX DY (⟨ocl, on, ⟨om, oi⟩, ov, ⟨(some ⟨pb, po, none⟩), opc, opl⟩⟩ : FO) (⟨qcl, qn, ⟨qm, qi⟩, qv, ⟨(some ⟨rb, ro, none⟩), qpc, qpl⟩⟩ : FO) ∧ PrmS DX DY (⟨ocl, on, ⟨om, oi⟩, ov, ⟨(some ⟨pb, po, none⟩), opc, opl⟩⟩ : FO) (⟨qcl, qn, ⟨qm, qi⟩, qv, ⟨(some ⟨rb, ro, none⟩), qpc, qpl⟩⟩ : FO) (j + 1) := by
                              rw [prm_step hpp hpq]
                              have q1 := hsm2.1 rfl
                              exact no_iff (fun q => by have q2 := q.2.2; rw [hDX, hDY] at q2; first | exact absurd q2.2 ‹_› | (have q3 := q2.1; dsimp only at q3; cases q3))
                            exact ag70 ⟨j + 1, false⟩ (by kernel_rfl) ⟨M83, ⟨by omega, hsm3⟩, hbt⟩ (by first | omega | (dsimp only; omega))
                          · skip
                            have phR85 : onceP (⟨xn, ⟨xa1, xc1, xl1⟩, ⟨xa2, xc2, xl2⟩, ⟨some ⟨ob, oo, none⟩, xc3, xl3⟩⟩ : Fc).d (⟨yn, ⟨ya1, yc1, yl1⟩, ⟨ya2, yc2, yl2⟩, ⟨some ⟨qb, qo, none⟩, yc3, yl3⟩⟩ : Fc).d (fun i k => T i k = true) ⟨pm, pi⟩ ⟨rm, ri⟩ := hR85.1 rfl
                            rw [once_eq hT] at phR85
                            refine SL.nil ?_
                            refine SM.back hb82 ?_
                            refine SM.last ?_
                            refine SU.pick (d := 142) (v := .bool true) (by kernel_rfl) ?_
                            refine SU.run (d := 11) (v := .bool true) (fun y hy => by kernel_rfl) ?_
                            refine SU.done ?_
                            refine SQ.blockNormal ?_
                            refine SC.next ?_
                            refine SC.region [0, 1, 2] (by kernel_rfl) (by kernel_rfl) ?_
                            refine SL.run (d := 110) (v := .int .i64 ((j : Nat) : Int)) (by kernel_rfl) ?_
                            refine SL.int (d := 111) (q := .i64) (x := IntKind.wrap .i64 (((j : Nat) : Int) + (1 : Int))) (y := ((j + 1 : Nat) : Int)) (wr64 (by omega) (by omega) (by omega)) (by kernel_rfl) ?_
                            refine SL.run (d := 12) (v := .int .i64 ((j + 1 : Nat) : Int)) (by kernel_rfl) ?_
                            refine SL.nil ?_
                            have hsm3 : true = true ↔ HeadS DX DY (⟨ocl, on, ⟨om, oi⟩, ov, ⟨(some ⟨pb, po, none⟩), opc, opl⟩⟩ : FO) (⟨qcl, qn, ⟨qm, qi⟩, qv, ⟨(some ⟨rb, ro, none⟩), qpc, qpl⟩⟩ : FO) ∧ PrmS DX DY (⟨ocl, on, ⟨om, oi⟩, ov, ⟨(some ⟨pb, po, none⟩), opc, opl⟩⟩ : FO) (⟨qcl, qn, ⟨qm, qi⟩, qv, ⟨(some ⟨rb, ro, none⟩), qpc, qpl⟩⟩ : FO) (j + 1) := by
                              rw [prm_step hpp hpq]
                              have q1 := hsm2.1 rfl
                              exact yes_iff ⟨q1.1, q1.2, by first | rfl | assumption, by rw [hDX, hDY]; assumption⟩
                            exact ag70 ⟨j + 1, true⟩ (by kernel_rfl) ⟨M83, ⟨by omega, hsm3⟩, hbt⟩ (by first | omega | (dsimp only; omega))
                        · skip
                          refine SU.run (d := 124) (v := .bool false) (fun y hy => by kernel_rfl) ?_
                          refine SU.run (d := 125) (v := .bool false) (fun y hy => by kernel_rfl) ?_
                          refine SU.offs [14, 15, 16, 17, 18, 19, 20, 21, 22, 23, 24, 25, 26, 27, 28] (qs := []) rfl (by kernel_rfl) ?_
                          refine SU.go ?_
                          refine SL.offs [29] (is := []) rfl (by kernel_rfl) ?_
                          refine SL.nil ?_
                          refine SM.back (Below.refl _ _) ?_
                          refine SM.last ?_
                          refine SU.pick (d := 142) (v := .bool false) (by kernel_rfl) ?_
                          refine SU.run (d := 11) (v := .bool false) (fun y hy => by kernel_rfl) ?_
                          refine SU.done ?_
                          refine SQ.blockNormal ?_
                          refine SC.next ?_
                          refine SC.region [0, 1, 2] (by kernel_rfl) (by kernel_rfl) ?_
                          refine SL.run (d := 110) (v := .int .i64 ((j : Nat) : Int)) (by kernel_rfl) ?_
                          refine SL.int (d := 111) (q := .i64) (x := IntKind.wrap .i64 (((j : Nat) : Int) + (1 : Int))) (y := ((j + 1 : Nat) : Int)) (wr64 (by omega) (by omega) (by omega)) (by kernel_rfl) ?_
                          refine SL.run (d := 12) (v := .int .i64 ((j + 1 : Nat) : Int)) (by kernel_rfl) ?_
                          refine SL.nil ?_
                          have hsm3 : false = true ↔ HeadS DX DY (⟨ocl, on, ⟨om, oi⟩, ov, ⟨(some ⟨pb, po, none⟩), opc, opl⟩⟩ : FO) (⟨qcl, qn, ⟨qm, qi⟩, qv, ⟨(some ⟨rb, ro, none⟩), qpc, qpl⟩⟩ : FO) ∧ PrmS DX DY (⟨ocl, on, ⟨om, oi⟩, ov, ⟨(some ⟨pb, po, none⟩), opc, opl⟩⟩ : FO) (⟨qcl, qn, ⟨qm, qi⟩, qv, ⟨(some ⟨rb, ro, none⟩), qpc, qpl⟩⟩ : FO) (j + 1) := by
                            rw [prm_step hpp hpq]
                            have q1 := hsm2.1 rfl
                            exact no_iff (fun q => by have q2 := q.2.2; rw [hDX, hDY] at q2; first | exact absurd q2.2 ‹_› | (have q3 := q2.1; dsimp only at q3; cases q3))
                          exact ag70 ⟨j + 1, false⟩ (by kernel_rfl) ⟨M80, ⟨by omega, hsm3⟩, hbt⟩ (by first | omega | (dsimp only; omega))
                      · skip
                        cases rv
                        · skip
                          refine SU.run (d := 124) (v := .bool false) (fun y hy => by kernel_rfl) ?_
                          refine SU.run (d := 125) (v := .bool false) (fun y hy => by kernel_rfl) ?_
                          refine SU.offs [14, 15, 16, 17, 18, 19, 20, 21, 22, 23, 24, 25, 26, 27, 28] (qs := []) rfl (by kernel_rfl) ?_
                          refine SU.go ?_
                          refine SL.offs [29] (is := []) rfl (by kernel_rfl) ?_
                          refine SL.nil ?_
                          refine SM.back (Below.refl _ _) ?_
                          refine SM.last ?_
                          refine SU.pick (d := 142) (v := .bool false) (by kernel_rfl) ?_
                          refine SU.run (d := 11) (v := .bool false) (fun y hy => by kernel_rfl) ?_
                          refine SU.done ?_
                          refine SQ.blockNormal ?_
                          refine SC.next ?_
                          refine SC.region [0, 1, 2] (by kernel_rfl) (by kernel_rfl) ?_
                          refine SL.run (d := 110) (v := .int .i64 ((j : Nat) : Int)) (by kernel_rfl) ?_
                          refine SL.int (d := 111) (q := .i64) (x := IntKind.wrap .i64 (((j : Nat) : Int) + (1 : Int))) (y := ((j + 1 : Nat) : Int)) (wr64 (by omega) (by omega) (by omega)) (by kernel_rfl) ?_
                          refine SL.run (d := 12) (v := .int .i64 ((j + 1 : Nat) : Int)) (by kernel_rfl) ?_
                          refine SL.nil ?_
                          have hsm3 : false = true ↔ HeadS DX DY (⟨ocl, on, ⟨om, oi⟩, ov, ⟨(some ⟨pb, po, none⟩), opc, opl⟩⟩ : FO) (⟨qcl, qn, ⟨qm, qi⟩, qv, ⟨(some ⟨rb, ro, none⟩), qpc, qpl⟩⟩ : FO) ∧ PrmS DX DY (⟨ocl, on, ⟨om, oi⟩, ov, ⟨(some ⟨pb, po, none⟩), opc, opl⟩⟩ : FO) (⟨qcl, qn, ⟨qm, qi⟩, qv, ⟨(some ⟨rb, ro, none⟩), qpc, qpl⟩⟩ : FO) (j + 1) := by
                            rw [prm_step hpp hpq]
                            have q1 := hsm2.1 rfl
                            exact no_iff (fun q => by have q2 := q.2.2; rw [hDX, hDY] at q2; first | exact absurd q2.2 ‹_› | (have q3 := q2.1; dsimp only at q3; cases q3))
                          exact ag70 ⟨j + 1, false⟩ (by kernel_rfl) ⟨M80, ⟨by omega, hsm3⟩, hbt⟩ (by first | omega | (dsimp only; omega))
                        · skip
                          refine SU.run (d := 124) (v := .bool true) (fun y hy => by kernel_rfl) ?_
                          refine SU.run (d := 125) (v := .bool true) (fun y hy => by kernel_rfl) ?_
                          refine SU.load (d := 126) (t := 26) (b := .pointer (some ⟨g1, 0, none⟩)) (v := .agg #[.string xn, .slice xa1 xl1.length xc1, .slice xa2 xl2.length xc2, .slice (some ⟨ob, oo, none⟩) xl3.length xc3]) (by kernel_rfl) (fun y hy => ((M80.call hy).ldBox 3 rfl Try.underlying26 rfl (by kernel_rfl))) ?_
                          refine SU.run (d := 127) (v := .pointer (some ⟨g40, 5, none⟩)) (fun y hy => by kernel_rfl) ?_
                          refine SU.load (d := 128) (t := 35) (b := .pointer (some ⟨g40, 5, none⟩)) (v := .slice (some ⟨pb, po, none⟩) opl.length opc) (by kernel_rfl) (fun y hy => ((M80.call hy).ldCell 1 rfl (j := 5) (v := .slice (some ⟨pb, po, none⟩) opl.length opc) rfl Try.underlying35 rfl)) ?_
                          refine SU.run (d := 129) (v := .int .i64 ((j : Nat) : Int)) (fun y hy => by kernel_rfl) ?_
                          refine SU.index (d := 130) (t := 35) (e := 66) (b := pb) (o := po) (len := opl.length) (cap := opc) (sz := 3) (k := .i64) (m := ((j : Nat) : Int)) j (by kernel_rfl) Try.underlying35 (by kernel_rfl) rfl (by omega) ?_
                          refine SU.run (d := 131) (v := .pointer (some ⟨pb, po + j * 3 + 1, none⟩)) (fun y hy => by kernel_rfl) ?_
                          refine SU.load (d := 132) (t := 34) (b := .pointer (some ⟨pb, po + j * 3 + 1, none⟩)) (v := .agg #[.int .i64 pm, .int .i64 pi]) (by kernel_rfl) (fun y hy => (ld_oldPart (M80.call hy) hpb hpc 1 (vs := [.int .i64 pm, .int .i64 pi]) rfl Try.underlying34 rfl (by kernel_rfl) rfl)) ?_
                          refine SU.load (d := 133) (t := 26) (b := .pointer (some ⟨g5, 0, none⟩)) (v := .agg #[.string yn, .slice ya1 yl1.length yc1, .slice ya2 yl2.length yc2, .slice (some ⟨qb, qo, none⟩) yl3.length yc3]) (by kernel_rfl) (fun y hy => ((M80.call hy).ldBox 2 rfl Try.underlying26 rfl (by kernel_rfl))) ?_
                          refine SU.run (d := 134) (v := .pointer (some ⟨g46, 5, none⟩)) (fun y hy => by kernel_rfl) ?_
                          refine SU.load (d := 135) (t := 35) (b := .pointer (some ⟨g46, 5, none⟩)) (v := .slice (some ⟨rb, ro, none⟩) qpl.length qpc) (by kernel_rfl) (fun y hy => ((M80.call hy).ldCell 0 rfl (j := 5) (v := .slice (some ⟨rb, ro, none⟩) qpl.length qpc) rfl Try.underlying35 rfl)) ?_
                          refine SU.run (d := 136) (v := .int .i64 ((j : Nat) : Int)) (fun y hy => by kernel_rfl) ?_
                          refine SU.index (d := 137) (t := 35) (e := 66) (b := rb) (o := ro) (len := qpl.length) (cap := qpc) (sz := 3) (k := .i64) (m := ((j : Nat) : Int)) j (by kernel_rfl) Try.underlying35 (by kernel_rfl) rfl (by omega) ?_
                          refine SU.run (d := 138) (v := .pointer (some ⟨rb, ro + j * 3 + 1, none⟩)) (fun y hy => by kernel_rfl) ?_
                          refine SU.load (d := 139) (t := 34) (b := .pointer (some ⟨rb, ro + j * 3 + 1, none⟩)) (v := .agg #[.int .i64 rm, .int .i64 ri]) (by kernel_rfl) (fun y hy => (ld_oldPart (M80.call hy) hrb hrc 1 (vs := [.int .i64 rm, .int .i64 ri]) rfl Try.underlying34 rfl (by kernel_rfl) rfl)) ?_
                          refine SU.run (d := 140) (v := .slice ta xl2.length tc) (fun y hy => by kernel_rfl) ?_
                          refine SU.go ?_
                          refine SL.call (d := 141) (f := 29) (vs := [.agg #[.string xn, .slice xa1 xl1.length xc1, .slice xa2 xl2.length xc2, .slice (some ⟨ob, oo, none⟩) xl3.length xc3], .agg #[.int .i64 pm, .int .i64 pi], .agg #[.string yn, .slice ya1 yl1.length yc1, .slice ya2 yl2.length yc2, .slice (some ⟨qb, qo, none⟩) yl3.length yc3], .agg #[.int .i64 rm, .int .i64 ri], .slice ta xl2.length tc]) (by kernel_rfl) (by kernel_rfl) (once_walk (⟨xn, ⟨xa1, xc1, xl1⟩, ⟨xa2, xc2, xl2⟩, ⟨some ⟨ob, oo, none⟩, xc3, xl3⟩⟩ : Fc) (⟨yn, ⟨ya1, yc1, yl1⟩, ⟨ya2, yc2, yl2⟩, ⟨some ⟨qb, qo, none⟩, yc3, yl3⟩⟩ : Fc) pm pi rm ri ta xl2.length tc yl2.length T w78 (hx.bel M80.bel) (hy.bel M80.bel) (rf_of_leads hmx (lox.2 _ (List.mem_of_getElem? hpp))) (rf_of_leads hmy (loq.2 _ (List.mem_of_getElem? hpq))) (htb.bel hbt)) ?_
                          rintro e w86 ⟨R89, rfl, hR90, hb87⟩
                          refine ⟨_, rfl, ?_⟩
                          have M88 := M80.call hb87
                          replace hbt := bel_then hbt hb87
                          cases R89
                          · skip
                            have phR90 : ¬ (onceP (⟨xn, ⟨xa1, xc1, xl1⟩, ⟨xa2, xc2, xl2⟩, ⟨some ⟨ob, oo, none⟩, xc3, xl3⟩⟩ : Fc).d (⟨yn, ⟨ya1, yc1, yl1⟩, ⟨ya2, yc2, yl2⟩, ⟨some ⟨qb, qo, none⟩, yc3, yl3⟩⟩ : Fc).d (fun i k => T i k = true) ⟨pm, pi⟩ ⟨rm, ri⟩) := fun q => Bool.noConfusion (hR90.2 q)
                            rw [once_eq hT] at phR90
                            refine SL.nil ?_
                            refine SM.back hb87 ?_
                            refine SM.last ?_
                            refine SU.pick (d := 142) (v := .bool false) (by kernel_rfl) ?_
                            refine SU.run (d := 11) (v := .bool false) (fun y hy => by kernel_rfl) ?_
                            refine SU.done ?_
                            refine SQ.blockNormal ?_
                            refine SC.next ?_
                            refine SC.region [0, 1, 2] (by kernel_rfl) (by kernel_rfl) ?_
                            refine SL.run (d := 110) (v := .int .i64 ((j : Nat) : Int)) (by kernel_rfl) ?_
                            refine SL.int (d := 111) (q := .i64) (x := IntKind.wrap .i64 (((j : Nat) : Int) + (1 : Int))) (y := ((j + 1 : Nat) : Int)) (wr64 (by omega) (by omega) (by omega)) (by kernel_rfl) ?_
                            refine SL.run (d := 12) (v := .int .i64 ((j + 1 : Nat) : Int)) (by kernel_rfl) ?_
                            refine SL.nil ?_
                            have hsm3 : false = true ↔ HeadS DX DY (⟨ocl, on, ⟨om, oi⟩, ov, ⟨(some ⟨pb, po, none⟩), opc, opl⟩⟩ : FO) (⟨qcl, qn, ⟨qm, qi⟩, qv, ⟨(some ⟨rb, ro, none⟩), qpc, qpl⟩⟩ : FO) ∧ PrmS DX DY (⟨ocl, on, ⟨om, oi⟩, ov, ⟨(some ⟨pb, po, none⟩), opc, opl⟩⟩ : FO) (⟨qcl, qn, ⟨qm, qi⟩, qv, ⟨(some ⟨rb, ro, none⟩), qpc, qpl⟩⟩ : FO) (j + 1) := by
                              rw [prm_step hpp hpq]
                              have q1 := hsm2.1 rfl
                              exact no_iff (fun q => by have q2 := q.2.2; rw [hDX, hDY] at q2; first | exact absurd q2.2 ‹_› | (have q3 := q2.1; dsimp only at q3; cases q3))
                            exact ag70 ⟨j + 1, false⟩ (by kernel_rfl) ⟨M88, ⟨by omega, hsm3⟩, hbt⟩ (by first | omega | (dsimp only; omega))
                          · skip
                            have phR90 : onceP (⟨xn, ⟨xa1, xc1, xl1⟩, ⟨xa2, xc2, xl2⟩, ⟨some ⟨ob, oo, none⟩, xc3, xl3⟩⟩ : Fc).d (⟨yn, ⟨ya1, yc1, yl1⟩, ⟨ya2, yc2, yl2⟩, ⟨some ⟨qb, qo, none⟩, yc3, yl3⟩⟩ : Fc).d (fun i k => T i k = true) ⟨pm, pi⟩ ⟨rm, ri⟩ := hR90.1 rfl
                            rw [once_eq hT] at phR90
                            refine SL.nil ?_
                            refine SM.back hb87 ?_
                            refine SM.last ?_
                            refine SU.pick (d := 142) (v := .bool true) (by kernel_rfl) ?_
                            refine SU.run (d := 11) (v := .bool true) (fun y hy => by kernel_rfl) ?_
                            refine SU.done ?_
                            refine SQ.blockNormal ?_
                            refine SC.next ?_
                            refine SC.region [0, 1, 2] (by kernel_rfl) (by kernel_rfl) ?_
                            refine SL.run (d := 110) (v := .int .i64 ((j : Nat) : Int)) (by kernel_rfl) ?_
                            refine SL.int (d := 111) (q := .i64) (x := IntKind.wrap .i64 (((j : Nat) : Int) + (1 : Int))) (y := ((j + 1 : Nat) : Int)) (wr64 (by omega) (by omega) (by omega)) (by kernel_rfl) ?_
                            refine SL.run (d := 12) (v := .int .i64 ((j + 1 : Nat) : Int)) (by kernel_rfl) ?_
                            refine SL.nil ?_
                            have hsm3 : true = true ↔ HeadS DX DY (⟨ocl, on, ⟨om, oi⟩, ov, ⟨(some ⟨pb, po, none⟩), opc, opl⟩⟩ : FO) (⟨qcl, qn, ⟨qm, qi⟩, qv, ⟨(some ⟨rb, ro, none⟩), qpc, qpl⟩⟩ : FO) ∧ PrmS DX DY (⟨ocl, on, ⟨om, oi⟩, ov, ⟨(some ⟨pb, po, none⟩), opc, opl⟩⟩ : FO) (⟨qcl, qn, ⟨qm, qi⟩, qv, ⟨(some ⟨rb, ro, none⟩), qpc, qpl⟩⟩ : FO) (j + 1) := by
                              rw [prm_step hpp hpq]
                              have q1 := hsm2.1 rfl
                              exact yes_iff ⟨q1.1, q1.2, by first | rfl | assumption, by rw [hDX, hDY]; assumption⟩
                            exact ag70 ⟨j + 1, true⟩ (by kernel_rfl) ⟨M88, ⟨by omega, hsm3⟩, hbt⟩ (by first | omega | (dsimp only; omega))
                  · skip
                    have ph75 : ¬ (((j : Nat) : Int) < ((opl.length : Nat) : Int)) := of_decide_eq_false h75
                    refine SL.bool (d := 106) (x := (decide (((j : Nat) : Int) < ((opl.length : Nat) : Int)))) (y := false) h75 (by kernel_rfl) ?_
                    refine SL.run (d := 107) (v := .bool false) (by kernel_rfl) ?_
                    refine SL.offs [6] (is := [7]) rfl (by kernel_rfl) ?_
                    refine SL.pick (d := 109) (v := .bool false) (by kernel_rfl) ?_
                    refine SL.nil ?_
                    refine SC.next ?_
                    refine SC.no (by kernel_rfl) ?_
                    refine SC.exit (i := 4) (by kernel_rfl) ?_
                    refine SQ.seqExit (by nofun) ?_
                    refine ex71 (by nofun) ?_
                    refine SQ.blockHere ?_
                    refine SC.next ?_
                    have hfull : sm2 = true ↔ SameS DX DY (⟨ocl, on, ⟨om, oi⟩, ov, ⟨opa, opc, opl⟩⟩ : FO) (⟨qcl, qn, ⟨qm, qi⟩, qv, ⟨qpa, qpc, qpl⟩⟩ : FO) := by
                      have hje : opl.length ≤ j := by omega
                      rw [hsm2]
                      exact same_iff hje
                    refine SC.region [0, 1, 2, 3, 4] (by kernel_rfl) (by kernel_rfl) ?_
                    refine SL.run (d := 143) (v := .bool fnd) (by kernel_rfl) ?_
                    refine SL.run (d := 144) (v := .bool fnd) (by kernel_rfl) ?_
                    cases fnd
                    · skip
                      refine SL.run (d := 145) (v := .bool sm2) (by kernel_rfl) ?_
                      refine SL.pick (d := 146) (v := .bool sm2) (by kernel_rfl) ?_
                      refine SL.run (d := 7) (v := .bool sm2) (by kernel_rfl) ?_
                      refine SL.nil ?_
                      have hfnd2 : sm2 = true ↔ FoundS DX DY (⟨ocl, on, ⟨om, oi⟩, ov, ⟨opa, opc, opl⟩⟩ : FO) yl3 (k + 1) := by
                        rw [found_step hq]
                        exact ⟨fun q => .inr (hfull.1 q), fun q => q.elim (fun q => Bool.noConfusion (hfnd.2 q)) hfull.2⟩
                      refine SQ.blockNormal ?_
                      refine SC.next ?_
                      refine SC.region [0, 1, 2] (by kernel_rfl) (by kernel_rfl) ?_
                      refine SL.run (d := 52) (v := .int .i64 ((k : Nat) : Int)) (by kernel_rfl) ?_
                      refine SL.int (d := 53) (q := .i64) (x := IntKind.wrap .i64 (((k : Nat) : Int) + (1 : Int))) (y := ((k + 1 : Nat) : Int)) (wr64 (by omega) (by omega) (by omega)) (by kernel_rfl) ?_
                      refine SL.run (d := 8) (v := .int .i64 ((k + 1 : Nat) : Int)) (by kernel_rfl) ?_
                      refine SL.nil ?_
                      have M91 := M74.keep [2, 3] rfl (L' := [bx g5 #[.string yn, .slice ya1 yl1.length yc1, .slice ya2 yl2.length yc2, .slice (some ⟨qb, qo, none⟩) yl3.length yc3] 26, bx g1 #[.string xn, .slice xa1 xl1.length xc1, .slice xa2 xl2.length xc2, .slice (some ⟨ob, oo, none⟩) xl3.length xc3] 26]) rfl
                      exact ag30 ⟨k + 1, sm2⟩ (by kernel_rfl) ⟨M91, ⟨by omega, hfnd2⟩, hbt⟩ (by first | omega | (dsimp only; omega))
                    · skip
                      refine SL.offs [2] (is := [3, 4]) rfl (by kernel_rfl) ?_
                      refine SL.pick (d := 146) (v := .bool true) (by kernel_rfl) ?_
                      refine SL.run (d := 7) (v := .bool true) (by kernel_rfl) ?_
                      refine SL.nil ?_
                      have hfnd2 : true = true ↔ FoundS DX DY (⟨ocl, on, ⟨om, oi⟩, ov, ⟨opa, opc, opl⟩⟩ : FO) yl3 (k + 1) := by
                        rw [found_step hq]
                        first | exact yes_iff (.inl (hfnd.1 rfl)) | exact yes_iff (.inr (hfull.1 rfl))
                      refine SQ.blockNormal ?_
                      refine SC.next ?_
                      refine SC.region [0, 1, 2] (by kernel_rfl) (by kernel_rfl) ?_
                      refine SL.run (d := 52) (v := .int .i64 ((k : Nat) : Int)) (by kernel_rfl) ?_
                      refine SL.int (d := 53) (q := .i64) (x := IntKind.wrap .i64 (((k : Nat) : Int) + (1 : Int))) (y := ((k + 1 : Nat) : Int)) (wr64 (by omega) (by omega) (by omega)) (by kernel_rfl) ?_
                      refine SL.run (d := 8) (v := .int .i64 ((k + 1 : Nat) : Int)) (by kernel_rfl) ?_
                      refine SL.nil ?_
                      have M92 := M74.keep [2, 3] rfl (L' := [bx g5 #[.string yn, .slice ya1 yl1.length yc1, .slice ya2 yl2.length yc2, .slice (some ⟨qb, qo, none⟩) yl3.length yc3] 26, bx g1 #[.string xn, .slice xa1 xl1.length xc1, .slice xa2 xl2.length xc2, .slice (some ⟨ob, oo, none⟩) xl3.length xc3] 26]) rfl
                      exact ag30 ⟨k + 1, true⟩ (by kernel_rfl) ⟨M92, ⟨by omega, hfnd2⟩, hbt⟩ (by first | omega | (dsimp only; omega))
                · skip
                  intro Q93 ag94 ex95 pn96
                  refine SC.region [0, 1, 2, 3, 4, 5, 6, 7, 8, 9, 10, 11, 12, 13, 14, 15, 16, 17, 18, 19, 20, 21, 22, 23, 24, 25, 26, 27, 28, 29, 30, 31, 32, 33, 34, 35, 36, 37, 38] (by kernel_rfl) (by kernel_rfl) ?_
                  refine SL.run (d := 64) (v := .pointer (some ⟨g40, 1, none⟩)) (by kernel_rfl) ?_
                  refine SL.load (d := 65) (t := 9) (a := .pointer (some ⟨g40, 1, none⟩)) (v := .string on) (by kernel_rfl) (M64.ldCell 1 rfl (j := 1) (v := .string on) rfl Try.underlying9 rfl) ?_
                  refine SL.run (d := 66) (v := .pointer (some ⟨g46, 1, none⟩)) (by kernel_rfl) ?_
                  refine SL.load (d := 67) (t := 9) (a := .pointer (some ⟨g46, 1, none⟩)) (v := .string qn) (by kernel_rfl) (M64.ldCell 0 rfl (j := 1) (v := .string qn) rfl Try.underlying9 rfl) ?_
                  rcases Bool.eq_false_or_eq_true (decide (on = qn)) with h97 | h97
                  · skip
                    have ph97 : on = qn := of_decide_eq_true h97
                    refine SL.bool (d := 68) (x := (on.toList == qn.toList)) (y := true) ((str_beq _ _).trans h97) (by kernel_rfl) ?_
                    refine SL.run (d := 69) (v := .bool true) (by kernel_rfl) ?_
                    refine SL.run (d := 70) (v := .pointer (some ⟨g40, 0, none⟩)) (by kernel_rfl) ?_
                    refine SL.load (d := 71) (t := 32) (a := .pointer (some ⟨g40, 0, none⟩)) (v := .int .i64 ocl) (by kernel_rfl) (M64.ldCell 1 rfl (j := 0) (v := .int .i64 ocl) rfl Try.underlying32 rfl) ?_
                    refine SL.run (d := 72) (v := .pointer (some ⟨g46, 0, none⟩)) (by kernel_rfl) ?_
                    refine SL.load (d := 73) (t := 32) (a := .pointer (some ⟨g46, 0, none⟩)) (v := .int .i64 qcl) (by kernel_rfl) (M64.ldCell 0 rfl (j := 0) (v := .int .i64 qcl) rfl Try.underlying32 rfl) ?_
                    rcases Bool.eq_false_or_eq_true (decide (ocl = qcl)) with h98 | h98
                    · skip
                      have ph98 : ocl = qcl := of_decide_eq_true h98
                      refine SL.bool (d := 74) (x := (ocl == qcl)) (y := true) ((int_beq _ _).trans h98) (by kernel_rfl) ?_
                      refine SL.pick (d := 75) (v := .bool true) (by kernel_rfl) ?_
                      refine SL.run (d := 76) (v := .bool true) (by kernel_rfl) ?_
                      refine SL.run (d := 77) (v := .pointer (some ⟨g40, 4, none⟩)) (by kernel_rfl) ?_
                      refine SL.load (d := 78) (t := 30) (a := .pointer (some ⟨g40, 4, none⟩)) (v := .int .u32 ov) (by kernel_rfl) (M64.ldCell 1 rfl (j := 4) (v := .int .u32 ov) rfl Try.underlying30 rfl) ?_
                      refine SL.run (d := 79) (v := .pointer (some ⟨g46, 4, none⟩)) (by kernel_rfl) ?_
                      refine SL.load (d := 80) (t := 30) (a := .pointer (some ⟨g46, 4, none⟩)) (v := .int .u32 qv) (by kernel_rfl) (M64.ldCell 0 rfl (j := 4) (v := .int .u32 qv) rfl Try.underlying30 rfl) ?_
                      rcases Bool.eq_false_or_eq_true (decide (ov = qv)) with h99 | h99
                      · skip
                        have ph99 : ov = qv := of_decide_eq_true h99
                        refine SL.bool (d := 81) (x := (ov == qv)) (y := true) ((int_beq _ _).trans h99) (by kernel_rfl) ?_
                        refine SL.pick (d := 82) (v := .bool true) (by kernel_rfl) ?_
                        refine SL.run (d := 83) (v := .bool true) (by kernel_rfl) ?_
                        refine SL.load (d := 84) (t := 26) (a := .pointer (some ⟨g1, 0, none⟩)) (v := .agg #[.string xn, .slice xa1 xl1.length xc1, .slice xa2 xl2.length xc2, .slice (some ⟨ob, oo, none⟩) xl3.length xc3]) (by kernel_rfl) (M64.ldBox 3 rfl Try.underlying26 rfl (by kernel_rfl)) ?_
                        refine SL.run (d := 85) (v := .pointer (some ⟨g40, 2, none⟩)) (by kernel_rfl) ?_
                        refine SL.load (d := 86) (t := 34) (a := .pointer (some ⟨g40, 2, none⟩)) (v := .agg #[.int .i64 om, .int .i64 oi]) (by kernel_rfl) (M64.ldPart 1 rfl 2 (vs := [.int .i64 om, .int .i64 oi]) rfl Try.underlying34 rfl (by kernel_rfl) rfl) ?_
                        refine SL.load (d := 87) (t := 26) (a := .pointer (some ⟨g5, 0, none⟩)) (v := .agg #[.string yn, .slice ya1 yl1.length yc1, .slice ya2 yl2.length yc2, .slice (some ⟨qb, qo, none⟩) yl3.length yc3]) (by kernel_rfl) (M64.ldBox 2 rfl Try.underlying26 rfl (by kernel_rfl)) ?_
                        refine SL.run (d := 88) (v := .pointer (some ⟨g46, 2, none⟩)) (by kernel_rfl) ?_
                        refine SL.load (d := 89) (t := 34) (a := .pointer (some ⟨g46, 2, none⟩)) (v := .agg #[.int .i64 qm, .int .i64 qi]) (by kernel_rfl) (M64.ldPart 0 rfl 2 (vs := [.int .i64 qm, .int .i64 qi]) rfl Try.underlying34 rfl (by kernel_rfl) rfl) ?_
                        refine SL.run (d := 90) (v := .slice ta xl2.length tc) (by kernel_rfl) ?_
                        refine SL.call (d := 91) (f := 29) (vs := [.agg #[.string xn, .slice xa1 xl1.length xc1, .slice xa2 xl2.length xc2, .slice (some ⟨ob, oo, none⟩) xl3.length xc3], .agg #[.int .i64 om, .int .i64 oi], .agg #[.string yn, .slice ya1 yl1.length yc1, .slice ya2 yl2.length yc2, .slice (some ⟨qb, qo, none⟩) yl3.length yc3], .agg #[.int .i64 qm, .int .i64 qi], .slice ta xl2.length tc]) (by kernel_rfl) (by kernel_rfl) (once_walk (⟨xn, ⟨xa1, xc1, xl1⟩, ⟨xa2, xc2, xl2⟩, ⟨some ⟨ob, oo, none⟩, xc3, xl3⟩⟩ : Fc) (⟨yn, ⟨ya1, yc1, yl1⟩, ⟨ya2, yc2, yl2⟩, ⟨some ⟨qb, qo, none⟩, yc3, yl3⟩⟩ : Fc) om oi qm qi ta xl2.length tc yl2.length T w63 (hx.bel M64.bel) (hy.bel M64.bel) (rf_of_leads hmx lox.1) (rf_of_leads hmy loq.1) (htb.bel hbt)) ?_
                        rintro e w100 ⟨R103, rfl, hR104, hb101⟩
                        refine ⟨_, rfl, ?_⟩
                        have M102 := M64.call hb101
                        replace hbt := bel_then hbt hb101
                        cases R103
                        · skip
                          have phR104 : ¬ (onceP (⟨xn, ⟨xa1, xc1, xl1⟩, ⟨xa2, xc2, xl2⟩, ⟨some ⟨ob, oo, none⟩, xc3, xl3⟩⟩ : Fc).d (⟨yn, ⟨ya1, yc1, yl1⟩, ⟨ya2, yc2, yl2⟩, ⟨some ⟨qb, qo, none⟩, yc3, yl3⟩⟩ : Fc).d (fun i k => T i k = true) ⟨om, oi⟩ ⟨qm, qi⟩) := fun q => Bool.noConfusion (hR104.2 q)
                          rw [once_eq hT] at phR104
                          refine SL.pick (d := 92) (v := .bool false) (by kernel_rfl) ?_
                          refine SL.run (d := 93) (v := .bool false) (by kernel_rfl) ?_
                          refine SL.offs [30, 31, 32, 33, 34, 35, 36] (is := [37, 38]) rfl (by kernel_rfl) ?_
                          refine SL.pick (d := 101) (v := .bool false) (by kernel_rfl) ?_
                          refine SL.run (d := 11) (v := .bool false) (by kernel_rfl) ?_
                          refine SL.nil ?_
                          have hsm : false = true ↔ HeadS DX DY (⟨ocl, on, ⟨om, oi⟩, ov, ⟨opa, opc, opl⟩⟩ : FO) (⟨qcl, qn, ⟨qm, qi⟩, qv, ⟨qpa, qpc, qpl⟩⟩ : FO) := by
                            rw [hDX, hDY]
                            exact no_iff (fun q => by have q1 := q.1; have q2 := q.2.1; have q3 := q.2.2.1; have q4 := q.2.2.2.1; have q5 := q.2.2.2.2; dsimp only at q1 q2 q3 q4 q5; first | exact absurd q1 ‹_› | exact absurd q2 ‹_› | exact absurd q3 ‹_› | exact absurd q4 ‹_› | omega)
                          exact ag94 false (by kernel_rfl) ⟨M102, hsm, hbt⟩
                        · skip
                          have phR104 : onceP (⟨xn, ⟨xa1, xc1, xl1⟩, ⟨xa2, xc2, xl2⟩, ⟨some ⟨ob, oo, none⟩, xc3, xl3⟩⟩ : Fc).d (⟨yn, ⟨ya1, yc1, yl1⟩, ⟨ya2, yc2, yl2⟩, ⟨some ⟨qb, qo, none⟩, yc3, yl3⟩⟩ : Fc).d (fun i k => T i k = true) ⟨om, oi⟩ ⟨qm, qi⟩ := hR104.1 rfl
                          rw [once_eq hT] at phR104
                          refine SL.pick (d := 92) (v := .bool true) (by kernel_rfl) ?_
                          refine SL.run (d := 93) (v := .bool true) (by kernel_rfl) ?_
                          refine SL.run (d := 94) (v := .pointer (some ⟨g40, 5, none⟩)) (by kernel_rfl) ?_
                          refine SL.load (d := 95) (t := 35) (a := .pointer (some ⟨g40, 5, none⟩)) (v := .slice opa opl.length opc) (by kernel_rfl) (M102.ldCell 1 rfl (j := 5) (v := .slice opa opl.length opc) rfl Try.underlying35 rfl) ?_
                          refine SL.builtin (d := 96) (b := .len) (ts := [35]) (ty := 3) (vs := [.slice opa opl.length opc]) (v := .int .i64 ((opl.length : Nat) : Int)) (by kernel_rfl) (fun k => run_len Try.underlying35 rfl k) ?_
                          refine SL.run (d := 97) (v := .pointer (some ⟨g46, 5, none⟩)) (by kernel_rfl) ?_
                          refine SL.load (d := 98) (t := 35) (a := .pointer (some ⟨g46, 5, none⟩)) (v := .slice qpa qpl.length qpc) (by kernel_rfl) (M102.ldCell 0 rfl (j := 5) (v := .slice qpa qpl.length qpc) rfl Try.underlying35 rfl) ?_
                          refine SL.builtin (d := 99) (b := .len) (ts := [35]) (ty := 3) (vs := [.slice qpa qpl.length qpc]) (v := .int .i64 ((qpl.length : Nat) : Int)) (by kernel_rfl) (fun k => run_len Try.underlying35 rfl k) ?_
                          rcases Bool.eq_false_or_eq_true (decide (((opl.length : Nat) : Int) = ((qpl.length : Nat) : Int))) with h105 | h105
                          · skip
                            have ph105 : ((opl.length : Nat) : Int) = ((qpl.length : Nat) : Int) := of_decide_eq_true h105
                            refine SL.bool (d := 100) (x := (((opl.length : Nat) : Int) == ((qpl.length : Nat) : Int))) (y := true) ((int_beq _ _).trans h105) (by kernel_rfl) ?_
                            refine SL.pick (d := 101) (v := .bool true) (by kernel_rfl) ?_
                            refine SL.run (d := 11) (v := .bool true) (by kernel_rfl) ?_
                            refine SL.nil ?_
                            have hsm : true = true ↔ HeadS DX DY (⟨ocl, on, ⟨om, oi⟩, ov, ⟨opa, opc, opl⟩⟩ : FO) (⟨qcl, qn, ⟨qm, qi⟩, qv, ⟨qpa, qpc, qpl⟩⟩ : FO) := by
                              rw [hDX, hDY]
                              exact yes_iff ⟨‹_›, ‹_›, ‹_›, ‹_›, by dsimp only; omega⟩
                            exact ag94 true (by kernel_rfl) ⟨M102, hsm, hbt⟩
                          · skip
                            have ph105 : ¬ (((opl.length : Nat) : Int) = ((qpl.length : Nat) : Int)) := of_decide_eq_false h105
                            refine SL.bool (d := 100) (x := (((opl.length : Nat) : Int) == ((qpl.length : Nat) : Int))) (y := false) ((int_beq _ _).trans h105) (by kernel_rfl) ?_
                            refine SL.pick (d := 101) (v := .bool false) (by kernel_rfl) ?_
                            refine SL.run (d := 11) (v := .bool false) (by kernel_rfl) ?_
                            refine SL.nil ?_
                            have hsm : false = true ↔ HeadS DX DY (⟨ocl, on, ⟨om, oi⟩, ov, ⟨opa, opc, opl⟩⟩ : FO) (⟨qcl, qn, ⟨qm, qi⟩, qv, ⟨qpa, qpc, qpl⟩⟩ : FO) := by
                              rw [hDX, hDY]
                              exact no_iff (fun q => by have q1 := q.1; have q2 := q.2.1; have q3 := q.2.2.1; have q4 := q.2.2.2.1; have q5 := q.2.2.2.2; dsimp only at q1 q2 q3 q4 q5; first | exact absurd q1 ‹_› | exact absurd q2 ‹_› | exact absurd q3 ‹_› | exact absurd q4 ‹_› | omega)
                            exact ag94 false (by kernel_rfl) ⟨M102, hsm, hbt⟩
                      · skip
                        have ph99 : ¬ (ov = qv) := of_decide_eq_false h99
                        refine SL.bool (d := 81) (x := (ov == qv)) (y := false) ((int_beq _ _).trans h99) (by kernel_rfl) ?_
                        refine SL.pick (d := 82) (v := .bool false) (by kernel_rfl) ?_
                        refine SL.run (d := 83) (v := .bool false) (by kernel_rfl) ?_
                        refine SL.offs [20, 21, 22, 23, 24, 25, 26, 27] (is := [28, 29, 30, 31, 32, 33, 34, 35, 36, 37, 38]) rfl (by kernel_rfl) ?_
                        refine SL.pick (d := 92) (v := .bool false) (by kernel_rfl) ?_
                        refine SL.run (d := 93) (v := .bool false) (by kernel_rfl) ?_
                        refine SL.offs [30, 31, 32, 33, 34, 35, 36] (is := [37, 38]) rfl (by kernel_rfl) ?_
                        refine SL.pick (d := 101) (v := .bool false) (by kernel_rfl) ?_
                        refine SL.run (d := 11) (v := .bool false) (by kernel_rfl) ?_
                        refine SL.nil ?_
                        have hsm : false = true ↔ HeadS DX DY (⟨ocl, on, ⟨om, oi⟩, ov, ⟨opa, opc, opl⟩⟩ : FO) (⟨qcl, qn, ⟨qm, qi⟩, qv, ⟨qpa, qpc, qpl⟩⟩ : FO) := by
                          rw [hDX, hDY]
                          exact no_iff (fun q => by have q1 := q.1; have q2 := q.2.1; have q3 := q.2.2.1; have q4 := q.2.2.2.1; have q5 := q.2.2.2.2; dsimp only at q1 q2 q3 q4 q5; first | exact absurd q1 ‹_› | exact absurd q2 ‹_› | exact absurd q3 ‹_› | exact absurd q4 ‹_› | omega)
                        exact ag94 false (by kernel_rfl) ⟨M64, hsm, hbt⟩
                    · skip
                      have ph98 : ¬ (ocl = qcl) := of_decide_eq_false h98
                      refine SL.bool (d := 74) (x := (ocl == qcl)) (y := false) ((int_beq _ _).trans h98) (by kernel_rfl) ?_
                      refine SL.pick (d := 75) (v := .bool false) (by kernel_rfl) ?_
                      refine SL.run (d := 76) (v := .bool false) (by kernel_rfl) ?_
                      refine SL.offs [13, 14, 15, 16, 17] (is := [18, 19, 20, 21, 22, 23, 24, 25, 26, 27, 28, 29, 30, 31, 32, 33, 34, 35, 36, 37, 38]) rfl (by kernel_rfl) ?_
                      refine SL.pick (d := 82) (v := .bool false) (by kernel_rfl) ?_
                      refine SL.run (d := 83) (v := .bool false) (by kernel_rfl) ?_
                      refine SL.offs [20, 21, 22, 23, 24, 25, 26, 27] (is := [28, 29, 30, 31, 32, 33, 34, 35, 36, 37, 38]) rfl (by kernel_rfl) ?_
                      refine SL.pick (d := 92) (v := .bool false) (by kernel_rfl) ?_
                      refine SL.run (d := 93) (v := .bool false) (by kernel_rfl) ?_
                      refine SL.offs [30, 31, 32, 33, 34, 35, 36] (is := [37, 38]) rfl (by kernel_rfl) ?_
                      refine SL.pick (d := 101) (v := .bool false) (by kernel_rfl) ?_
                      refine SL.run (d := 11) (v := .bool false) (by kernel_rfl) ?_
                      refine SL.nil ?_
                      have hsm : false = true ↔ HeadS DX DY (⟨ocl, on, ⟨om, oi⟩, ov, ⟨opa, opc, opl⟩⟩ : FO) (⟨qcl, qn, ⟨qm, qi⟩, qv, ⟨qpa, qpc, qpl⟩⟩ : FO) := by
                        rw [hDX, hDY]
                        exact no_iff (fun q => by have q1 := q.1; have q2 := q.2.1; have q3 := q.2.2.1; have q4 := q.2.2.2.1; have q5 := q.2.2.2.2; dsimp only at q1 q2 q3 q4 q5; first | exact absurd q1 ‹_› | exact absurd q2 ‹_› | exact absurd q3 ‹_› | exact absurd q4 ‹_› | omega)
                      exact ag94 false (by kernel_rfl) ⟨M64, hsm, hbt⟩
                  · skip
                    have ph97 : ¬ (on = qn) := of_decide_eq_false h97
                    refine SL.bool (d := 68) (x := (on.toList == qn.toList)) (y := false) ((str_beq _ _).trans h97) (by kernel_rfl) ?_
                    refine SL.run (d := 69) (v := .bool false) (by kernel_rfl) ?_
                    refine SL.offs [6, 7, 8, 9, 10] (is := [11, 12, 13, 14, 15, 16, 17, 18, 19, 20, 21, 22, 23, 24, 25, 26, 27, 28, 29, 30, 31, 32, 33, 34, 35, 36, 37, 38]) rfl (by kernel_rfl) ?_
                    refine SL.pick (d := 75) (v := .bool false) (by kernel_rfl) ?_
                    refine SL.run (d := 76) (v := .bool false) (by kernel_rfl) ?_
                    refine SL.offs [13, 14, 15, 16, 17] (is := [18, 19, 20, 21, 22, 23, 24, 25, 26, 27, 28, 29, 30, 31, 32, 33, 34, 35, 36, 37, 38]) rfl (by kernel_rfl) ?_
                    refine SL.pick (d := 82) (v := .bool false) (by kernel_rfl) ?_
                    refine SL.run (d := 83) (v := .bool false) (by kernel_rfl) ?_
                    refine SL.offs [20, 21, 22, 23, 24, 25, 26, 27] (is := [28, 29, 30, 31, 32, 33, 34, 35, 36, 37, 38]) rfl (by kernel_rfl) ?_
                    refine SL.pick (d := 92) (v := .bool false) (by kernel_rfl) ?_
                    refine SL.run (d := 93) (v := .bool false) (by kernel_rfl) ?_
                    refine SL.offs [30, 31, 32, 33, 34, 35, 36] (is := [37, 38]) rfl (by kernel_rfl) ?_
                    refine SL.pick (d := 101) (v := .bool false) (by kernel_rfl) ?_
                    refine SL.run (d := 11) (v := .bool false) (by kernel_rfl) ?_
                    refine SL.nil ?_
                    have hsm : false = true ↔ HeadS DX DY (⟨ocl, on, ⟨om, oi⟩, ov, ⟨opa, opc, opl⟩⟩ : FO) (⟨qcl, qn, ⟨qm, qi⟩, qv, ⟨qpa, qpc, qpl⟩⟩ : FO) := by
                      rw [hDX, hDY]
                      exact no_iff (fun q => by have q1 := q.1; have q2 := q.2.1; have q3 := q.2.2.1; have q4 := q.2.2.2.1; have q5 := q.2.2.2.2; dsimp only at q1 q2 q3 q4 q5; first | exact absurd q1 ‹_› | exact absurd q2 ‹_› | exact absurd q3 ‹_› | exact absurd q4 ‹_› | omega)
                    exact ag94 false (by kernel_rfl) ⟨M64, hsm, hbt⟩
              · skip
                intro Q106 ag107 ex108 pn109
                refine SC.orders (fun wd => NewG wd) 14 (by kernel_rfl) (by kernel_rfl) (by kernel_rfl) ?_
                intro w110 hb111
                have M112 := M34.call hb111
                replace hbt := bel_then hbt hb111
                have acc113 : Ke (NewG w110) w110 w110 := Ke.refl _ _
                refine SR.step (r := 3) [0, 1, 2, 3, 4, 5, 6, 7, 8, 9] [10, 11] pn109 (by kernel_rfl) (by kernel_rfl) (by kernel_rfl) rfl (by kernel_rfl) ?_
                refine SU.run (d := 54) (v := .pointer (some ⟨g1, 3, none⟩)) (fun y hy => by kernel_rfl) ?_
                refine SU.load (d := 55) (t := 24) (b := .pointer (some ⟨g1, 3, none⟩)) (v := .slice (some ⟨ob, oo, none⟩) xl3.length xc3) (by kernel_rfl) (fun y hy => ((M112.call (NewG.bel (Ke.trans acc113 hy))).ldCell 1 rfl (j := 3) (v := .slice (some ⟨ob, oo, none⟩) xl3.length xc3) rfl Try.underlying24 rfl)) ?_
                refine SU.run (d := 56) (v := .int .i64 ((i : Nat) : Int)) (fun y hy => by kernel_rfl) ?_
                refine SU.index (d := 57) (t := 24) (e := 37) (b := ob) (o := oo) (len := xl3.length) (cap := xc3) (sz := 6) (k := .i64) (m := ((i : Nat) : Int)) i (by kernel_rfl) Try.underlying24 (by kernel_rfl) rfl (by omega) ?_
                refine SU.load (d := 58) (t := 37) (b := .pointer (some ⟨ob, oo + i * 6, none⟩)) (v := .agg #[.int .i64 ocl, .string on, .int .i64 om, .int .i64 oi, .int .u32 ov, .slice opa opl.length opc]) (by kernel_rfl) (fun y hy => (ld_mid (cs := [.int .i64 ocl, .string on, .int .i64 om, .int .i64 oi, .int .u32 ov, .slice opa opl.length opc]) (fun j v hv => (M112.call (NewG.bel (Ke.trans acc113 hy))).old hob (hoc j v hv)) Try.underlying37 rfl (by kernel_rfl) rfl)) ?_
                refine SU.run (d := 59) (v := .pointer (some ⟨g5, 3, none⟩)) (fun y hy => by kernel_rfl) ?_
                refine SU.load (d := 60) (t := 24) (b := .pointer (some ⟨g5, 3, none⟩)) (v := .slice (some ⟨qb, qo, none⟩) yl3.length yc3) (by kernel_rfl) (fun y hy => ((M112.call (NewG.bel (Ke.trans acc113 hy))).ldCell 0 rfl (j := 3) (v := .slice (some ⟨qb, qo, none⟩) yl3.length yc3) rfl Try.underlying24 rfl)) ?_
                refine SU.run (d := 61) (v := .int .i64 ((k : Nat) : Int)) (fun y hy => by kernel_rfl) ?_
                refine SU.index (d := 62) (t := 24) (e := 37) (b := qb) (o := qo) (len := yl3.length) (cap := yc3) (sz := 6) (k := .i64) (m := ((k : Nat) : Int)) k (by kernel_rfl) Try.underlying24 (by kernel_rfl) rfl (by omega) ?_
                refine SU.load (d := 63) (t := 37) (b := .pointer (some ⟨qb, qo + k * 6, none⟩)) (v := .agg #[.int .i64 qcl, .string qn, .int .i64 qm, .int .i64 qi, .int .u32 qv, .slice qpa qpl.length qpc]) (by kernel_rfl) (fun y hy => (ld_mid (cs := [.int .i64 qcl, .string qn, .int .i64 qm, .int .i64 qi, .int .u32 qv, .slice qpa qpl.length qpc]) (fun j v hv => (M112.call (NewG.bel (Ke.trans acc113 hy))).old hqb (hqc j v hv)) Try.underlying37 rfl (by kernel_rfl) rfl)) ?_
                refine SU.each2 ?_ ?_
                · skip
                  refine SL.allocM (d := 9) (t := 37) (z := .agg #[.int .i64 0, .string ⟨#[]⟩, .int .i64 0, .int .i64 0, .int .u32 0, .slice none 0 0]) (cs := #[.int .i64 0, .string ⟨#[]⟩, .int .i64 0, .int .i64 0, .int .u32 0, .slice none 0 0]) M112 (by kernel_rfl) (by kernel_rfl) rfl ?_
                  intro g114 w115 hb116 ⟨bg114, lg114⟩ M117
                  have lo_hbt_g114 : wt.heap.size ≤ g114 := Nat.le_trans (Below.size hbt) bg114
                  have ke118 : Ke (NewG w110) _ _ := Ke.below _ hb116
                  have ng114 : w110.heap.size ≤ g114 := Nat.le_trans (Ke.size acc113) bg114
                  have acc119 := Ke.trans acc113 ke118
                  replace hbt := bel_then hbt hb116
                  refine SL.nil ?_
                  refine SR.back ke118 ?_
                  refine SR.norm (ls' := [0, 1, 2, 3, 4, 5, 6, 7, 8, 9, 10]) rfl ?_
                  refine SR.step (r := 2) [] [11] pn109 (by kernel_rfl) (by kernel_rfl) (by kernel_rfl) rfl (by kernel_rfl) ?_
                  refine SU.each1 ?_
                  refine SL.allocM (d := 10) (t := 37) (z := .agg #[.int .i64 0, .string ⟨#[]⟩, .int .i64 0, .int .i64 0, .int .u32 0, .slice none 0 0]) (cs := #[.int .i64 0, .string ⟨#[]⟩, .int .i64 0, .int .i64 0, .int .u32 0, .slice none 0 0]) M117 (by kernel_rfl) (by kernel_rfl) rfl ?_
                  intro g120 w121 hb122 ⟨bg120, lg120⟩ M123
                  have lo_hbt_g120 : wt.heap.size ≤ g120 := Nat.le_trans (Below.size hbt) bg120
                  have ke124 : Ke (NewG w110) _ _ := Ke.below _ hb122
                  have ng120 : w110.heap.size ≤ g120 := Nat.le_trans (Ke.size acc119) bg120
                  have acc125 := Ke.trans acc119 ke124
                  replace hbt := bel_then hbt hb122
                  refine SL.nil ?_
                  refine SR.back ke124 ?_
                  refine SR.norm (ls' := [0, 1, 2, 3, 4, 5, 6, 7, 8, 9, 10, 11]) rfl ?_
                  refine SR.step (r := 1) [] [12] pn109 (by kernel_rfl) (by kernel_rfl) (by kernel_rfl) rfl (by kernel_rfl) ?_
                  refine SU.each1 ?_
                  refine SL.storeM (t := 37) (a := .pointer (some ⟨g114, 0, none⟩)) (v := .agg #[.int .i64 ocl, .string on, .int .i64 om, .int .i64 oi, .int .u32 ov, .slice opa opl.length opc]) (L' := [bx g120 #[.int .i64 0, .string ⟨#[]⟩, .int .i64 0, .int .i64 0, .int .u32 0, .slice none 0 0] 37, bx g114 #[.int .i64 ocl, .string on, .int .i64 om, .int .i64 oi, .int .u32 ov, .slice opa opl.length opc] 37, bx g5 #[.string yn, .slice ya1 yl1.length yc1, .slice ya2 yl2.length yc2, .slice (some ⟨qb, qo, none⟩) yl3.length yc3] 26, bx g1 #[.string xn, .slice xa1 xl1.length xc1, .slice xa2 xl2.length xc2, .slice (some ⟨ob, oo, none⟩) xl3.length xc3] 26]) (by kernel_rfl) (M123.stBox 1 rfl rfl (by kernel_rfl) rfl) ?_
                  intro w126 M127 hk128 shk128
                  replace hbt := bel_keW hbt hk128 (fun i e => by subst e; exact lo_hbt_g114)
                  have ke129 : Ke (NewG w110) _ _ := Ke.mono hk128 (fun i _ e => by subst e; exact ng114)
                  have acc130 := Ke.trans acc125 ke129
                  refine SL.nil ?_
                  refine SR.back ke129 ?_
                  refine SR.norm (ls' := [0, 1, 2, 3, 4, 5, 6, 7, 8, 9, 10, 11, 12]) rfl ?_
                  refine SR.step (r := 0) [] [13] pn109 (by kernel_rfl) (by kernel_rfl) (by kernel_rfl) rfl (by kernel_rfl) ?_
                  refine SU.each1 ?_
                  refine SL.storeM (t := 37) (a := .pointer (some ⟨g120, 0, none⟩)) (v := .agg #[.int .i64 qcl, .string qn, .int .i64 qm, .int .i64 qi, .int .u32 qv, .slice qpa qpl.length qpc]) (L' := [bx g120 #[.int .i64 qcl, .string qn, .int .i64 qm, .int .i64 qi, .int .u32 qv, .slice qpa qpl.length qpc] 37, bx g114 #[.int .i64 ocl, .string on, .int .i64 om, .int .i64 oi, .int .u32 ov, .slice opa opl.length opc] 37, bx g5 #[.string yn, .slice ya1 yl1.length yc1, .slice ya2 yl2.length yc2, .slice (some ⟨qb, qo, none⟩) yl3.length yc3] 26, bx g1 #[.string xn, .slice xa1 xl1.length xc1, .slice xa2 xl2.length xc2, .slice (some ⟨ob, oo, none⟩) xl3.length xc3] 26]) (by kernel_rfl) (M127.stBox 0 rfl rfl (by kernel_rfl) rfl) ?_
                  intro w131 M132 hk133 shk133
                  replace hbt := bel_keW hbt hk133 (fun i e => by subst e; exact lo_hbt_g120)
                  have ke134 : Ke (NewG w110) _ _ := Ke.mono hk133 (fun i _ e => by subst e; exact ng120)
                  have acc135 := Ke.trans acc130 ke134
                  refine SL.nil ?_
                  refine SR.back ke134 ?_
                  refine SR.norm (ls' := [0, 1, 2, 3, 4, 5, 6, 7, 8, 9, 10, 11, 12, 13]) rfl ?_
                  refine SR.last [] pn109 (by kernel_rfl) (by kernel_rfl) (by kernel_rfl) (by kernel_rfl) ?_
                  refine SU.done ?_
                  exact ag107 ⟨g114, g120⟩ (by kernel_rfl) ⟨M132, trivial, hbt⟩
                · skip
                  refine SL.allocM (d := 10) (t := 37) (z := .agg #[.int .i64 0, .string ⟨#[]⟩, .int .i64 0, .int .i64 0, .int .u32 0, .slice none 0 0]) (cs := #[.int .i64 0, .string ⟨#[]⟩, .int .i64 0, .int .i64 0, .int .u32 0, .slice none 0 0]) M112 (by kernel_rfl) (by kernel_rfl) rfl ?_
                  intro g136 w137 hb138 ⟨bg136, lg136⟩ M139
                  have lo_hbt_g136 : wt.heap.size ≤ g136 := Nat.le_trans (Below.size hbt) bg136
                  have ke140 : Ke (NewG w110) _ _ := Ke.below _ hb138
                  have ng136 : w110.heap.size ≤ g136 := Nat.le_trans (Ke.size acc113) bg136
                  have acc141 := Ke.trans acc113 ke140
                  replace hbt := bel_then hbt hb138
                  refine SL.nil ?_
                  refine SR.back ke140 ?_
                  refine SR.norm (ls' := [0, 1, 2, 3, 4, 5, 6, 7, 8, 9, 11]) rfl ?_
                  refine SR.step (r := 2) [] [10] pn109 (by kernel_rfl) (by kernel_rfl) (by kernel_rfl) rfl (by kernel_rfl) ?_
                  refine SU.each1 ?_
                  refine SL.allocM (d := 9) (t := 37) (z := .agg #[.int .i64 0, .string ⟨#[]⟩, .int .i64 0, .int .i64 0, .int .u32 0, .slice none 0 0]) (cs := #[.int .i64 0, .string ⟨#[]⟩, .int .i64 0, .int .i64 0, .int .u32 0, .slice none 0 0]) M139 (by kernel_rfl) (by kernel_rfl) rfl ?_
                  intro g142 w143 hb144 ⟨bg142, lg142⟩ M145
                  have lo_hbt_g142 : wt.heap.size ≤ g142 := Nat.le_trans (Below.size hbt) bg142
                  have ke146 : Ke (NewG w110) _ _ := Ke.below _ hb144
                  have ng142 : w110.heap.size ≤ g142 := Nat.le_trans (Ke.size acc141) bg142
                  have acc147 := Ke.trans acc141 ke146
                  replace hbt := bel_then hbt hb144
                  refine SL.nil ?_
                  refine SR.back ke146 ?_
                  refine SR.norm (ls' := [0, 1, 2, 3, 4, 5, 6, 7, 8, 9, 11, 10]) rfl ?_
                  refine SR.step (r := 1) [] [12] pn109 (by kernel_rfl) (by kernel_rfl) (by kernel_rfl) rfl (by kernel_rfl) ?_
                  refine SU.each1 ?_
                  refine SL.storeM (t := 37) (a := .pointer (some ⟨g142, 0, none⟩)) (v := .agg #[.int .i64 ocl, .string on, .int .i64 om, .int .i64 oi, .int .u32 ov, .slice opa opl.length opc]) (L' := [bx g142 #[.int .i64 ocl, .string on, .int .i64 om, .int .i64 oi, .int .u32 ov, .slice opa opl.length opc] 37, bx g136 #[.int .i64 0, .string ⟨#[]⟩, .int .i64 0, .int .i64 0, .int .u32 0, .slice none 0 0] 37, bx g5 #[.string yn, .slice ya1 yl1.length yc1, .slice ya2 yl2.length yc2, .slice (some ⟨qb, qo, none⟩) yl3.length yc3] 26, bx g1 #[.string xn, .slice xa1 xl1.length xc1, .slice xa2 xl2.length xc2, .slice (some ⟨ob, oo, none⟩) xl3.length xc3] 26]) (by kernel_rfl) (M145.stBox 0 rfl rfl (by kernel_rfl) rfl) ?_
                  intro w148 M149 hk150 shk150
                  replace hbt := bel_keW hbt hk150 (fun i e => by subst e; exact lo_hbt_g142)
                  have ke151 : Ke (NewG w110) _ _ := Ke.mono hk150 (fun i _ e => by subst e; exact ng142)
                  have acc152 := Ke.trans acc147 ke151
                  refine SL.nil ?_
                  refine SR.back ke151 ?_
                  refine SR.norm (ls' := [0, 1, 2, 3, 4, 5, 6, 7, 8, 9, 11, 10, 12]) rfl ?_
                  refine SR.step (r := 0) [] [13] pn109 (by kernel_rfl) (by kernel_rfl) (by kernel_rfl) rfl (by kernel_rfl) ?_
                  refine SU.each1 ?_
                  refine SL.storeM (t := 37) (a := .pointer (some ⟨g136, 0, none⟩)) (v := .agg #[.int .i64 qcl, .string qn, .int .i64 qm, .int .i64 qi, .int .u32 qv, .slice qpa qpl.length qpc]) (L' := [bx g142 #[.int .i64 ocl, .string on, .int .i64 om, .int .i64 oi, .int .u32 ov, .slice opa opl.length opc] 37, bx g136 #[.int .i64 qcl, .string qn, .int .i64 qm, .int .i64 qi, .int .u32 qv, .slice qpa qpl.length qpc] 37, bx g5 #[.string yn, .slice ya1 yl1.length yc1, .slice ya2 yl2.length yc2, .slice (some ⟨qb, qo, none⟩) yl3.length yc3] 26, bx g1 #[.string xn, .slice xa1 xl1.length xc1, .slice xa2 xl2.length xc2, .slice (some ⟨ob, oo, none⟩) xl3.length xc3] 26]) (by kernel_rfl) (M149.stBox 1 rfl rfl (by kernel_rfl) rfl) ?_
                  intro w153 M154 hk155 shk155
                  replace hbt := bel_keW hbt hk155 (fun i e => by subst e; exact lo_hbt_g136)
                  have ke156 : Ke (NewG w110) _ _ := Ke.mono hk155 (fun i _ e => by subst e; exact ng136)
                  have acc157 := Ke.trans acc152 ke156
                  refine SL.nil ?_
                  refine SR.back ke156 ?_
                  refine SR.norm (ls' := [0, 1, 2, 3, 4, 5, 6, 7, 8, 9, 11, 10, 12, 13]) rfl ?_
                  refine SR.last [] pn109 (by kernel_rfl) (by kernel_rfl) (by kernel_rfl) (by kernel_rfl) ?_
                  refine SU.done ?_
                  have M158 := M154.keep [1, 0, 2, 3] rfl (L' := [bx g136 #[.int .i64 qcl, .string qn, .int .i64 qm, .int .i64 qi, .int .u32 qv, .slice qpa qpl.length qpc] 37, bx g142 #[.int .i64 ocl, .string on, .int .i64 om, .int .i64 oi, .int .u32 ov, .slice opa opl.length opc] 37, bx g5 #[.string yn, .slice ya1 yl1.length yc1, .slice ya2 yl2.length yc2, .slice (some ⟨qb, qo, none⟩) yl3.length yc3] 26, bx g1 #[.string xn, .slice xa1 xl1.length xc1, .slice xa2 xl2.length xc2, .slice (some ⟨ob, oo, none⟩) xl3.length xc3] 26]) rfl
                  exact ag107 ⟨g142, g136⟩ (by kernel_rfl) ⟨M158, trivial, hbt⟩
            · skip
              have ph35 : ¬ (((k : Nat) : Int) < ((yl3.length : Nat) : Int)) := of_decide_eq_false h35
              refine SL.bool (d := 51) (x := (decide (((k : Nat) : Int) < ((yl3.length : Nat) : Int)))) (y := false) h35 (by kernel_rfl) ?_
              refine SL.nil ?_
              refine SC.next ?_
              refine SC.no (by kernel_rfl) ?_
              refine SC.exit (i := 2) (by kernel_rfl) ?_
              refine SQ.seqExit (by nofun) ?_
              refine ex31 (by nofun) ?_
              refine SQ.blockHere ?_
              refine SC.next ?_
              refine SC.seq (by kernel_rfl) ?_
              refine SC.region [0, 1] (by kernel_rfl) (by kernel_rfl) ?_
              refine SL.run (d := 147) (v := .bool fnd) (by kernel_rfl) ?_
              cases fnd
              · skip
                refine SL.run (d := 148) (v := .bool true) (by kernel_rfl) ?_
                refine SL.nil ?_
                refine SC.next ?_
                refine SC.yes (by kernel_rfl) ?_
                refine SC.seq (by kernel_rfl) ?_
                refine SC.region [0] (by kernel_rfl) (by kernel_rfl) ?_
                refine SL.run (d := 4) (v := .bool false) (by kernel_rfl) ?_
                refine SL.nil ?_
                refine SC.next ?_
                refine SC.ret (by kernel_rfl) ?_
                refine SQ.blockRet ?_
                refine SQ.seqExit (by nofun) ?_
                refine ex23 (by nofun) ?_
                refine SQ.blockRet ?_
                refine SQ.seqExit (by nofun) ?_
                refine SQ.ret1 (t := 4) (v := .bool false) (.inr rfl) (by kernel_rfl) (by kernel_rfl) ?_
                refine ⟨_, rfl, ?_, M34.bel⟩
                rw [hD]
                exact no_iff (shows_not (x := ⟨xn, ⟨xa1, xc1, xl1⟩, ⟨xa2, xc2, xl2⟩, ⟨some ⟨ob, oo, none⟩, xc3, xl3⟩⟩) (y := ⟨yn, ⟨ya1, yc1, yl1⟩, ⟨ya2, yc2, yl2⟩, ⟨ya3, yc3, yl3⟩⟩) (o := ⟨ocl, on, ⟨om, oi⟩, ov, ⟨opa, opc, opl⟩⟩) (List.mem_of_getElem? ho) (k := k) (by dsimp only; omega) (by rw [← hDX, ← hDY]; exact fun q => Bool.noConfusion (hfnd.2 q)))
              · skip
                refine SL.run (d := 148) (v := .bool false) (by kernel_rfl) ?_
                refine SL.nil ?_
                refine SC.next ?_
                refine SC.no (by kernel_rfl) ?_
                refine SC.skip (by kernel_rfl) ?_
                refine SQ.blockNormal ?_
                refine SC.next ?_
                refine SC.region [0, 1, 2] (by kernel_rfl) (by kernel_rfl) ?_
                refine SL.run (d := 45) (v := .int .i64 ((i : Nat) : Int)) (by kernel_rfl) ?_
                refine SL.int (d := 46) (q := .i64) (x := IntKind.wrap .i64 (((i : Nat) : Int) + (1 : Int))) (y := ((i + 1 : Nat) : Int)) (wr64 (by omega) (by omega) (by omega)) (by kernel_rfl) ?_
                refine SL.run (d := 6) (v := .int .i64 ((i + 1 : Nat) : Int)) (by kernel_rfl) ?_
                refine SL.nil ?_
                exact ag22 (i + 1) (by kernel_rfl) ⟨M34, ⟨by omega, fun j z hj hz => by
                      rcases Nat.lt_or_ge j i with q | q
                      · exact hall j z q hz
                      · obtain rfl : j = i := by omega
                        rw [ho] at hz
                        obtain rfl := Option.some.inj hz
                        have hkk : k = yl3.length := by omega
                        rw [← hkk]; exact hfnd.1 rfl⟩, hbt⟩ (by first | omega | (dsimp only; omega))
          · skip
            have ph27 : ¬ (((i : Nat) : Int) < ((xl3.length : Nat) : Int)) := of_decide_eq_false h27
            refine SL.bool (d := 44) (x := (decide (((i : Nat) : Int) < ((xl3.length : Nat) : Int)))) (y := false) h27 (by kernel_rfl) ?_
            refine SL.nil ?_
            refine SC.next ?_
            refine SC.no (by kernel_rfl) ?_
            refine SC.exit (i := 0) (by kernel_rfl) ?_
            refine SQ.seqExit (by nofun) ?_
            refine ex23 (by nofun) ?_
            refine SQ.blockHere ?_
            refine SC.next ?_
            refine SC.seq (by kernel_rfl) ?_
            refine SC.region [0] (by kernel_rfl) (by kernel_rfl) ?_
            refine SL.run (d := 4) (v := .bool true) (by kernel_rfl) ?_
            refine SL.nil ?_
            refine SC.next ?_
            refine SC.ret (by kernel_rfl) ?_
            refine SQ.ret1 (t := 4) (v := .bool true) (.inr rfl) (by kernel_rfl) (by kernel_rfl) ?_
            refine ⟨_, rfl, ?_, M26.bel⟩
            rw [hD]
            exact yes_iff (shows_all hmx hmy ‹_› (by dsimp only; omega) (i := i) (k := 0) (by dsimp only; omega) (by rw [← hDX, ← hDY]; exact hall))
        · skip
          have ph16 : ¬ (((xl3.length : Nat) : Int) = ((yl3.length : Nat) : Int)) := of_decide_eq_false h16
          refine SL.bool (d := 35) (x := (((xl3.length : Nat) : Int) != ((yl3.length : Nat) : Int))) (y := true) ((int_bne _ _).trans (by rw [h16]; rfl)) (by kernel_rfl) ?_
          refine SL.pick (d := 36) (v := .bool true) (by kernel_rfl) ?_
          refine SL.nil ?_
          refine SC.next ?_
          refine SC.keep (l' := [(2, .pointer (some ⟨g1, 0, none⟩)), (3, .pointer (some ⟨g5, 0, none⟩)), (4, .bool false), (36, .bool true)]) [2, 3, 4, 36] (by kernel_rfl) ?_
          refine SC.yes (by kernel_rfl) ?_
          refine SC.seq (by kernel_rfl) ?_
          refine SC.region [0] (by kernel_rfl) (by kernel_rfl) ?_
          refine SL.run (d := 4) (v := .bool false) (by kernel_rfl) ?_
          refine SL.nil ?_
          refine SC.next ?_
          refine SC.ret (by kernel_rfl) ?_
          refine SQ.seqExit (by nofun) ?_
          refine SQ.ret1 (t := 4) (v := .bool false) (.inr rfl) (by kernel_rfl) (by kernel_rfl) ?_
          refine ⟨_, rfl, ?_, M14.bel⟩
          rw [hD]
          exact no_iff (fun q => by have q4 := q.2.2.2.1; simp only [Fc.d, List.length_map] at q4; omega)
      · skip
        have ph15 : ¬ (xn = yn) := of_decide_eq_false h15
        refine SL.bool (d := 26) (x := (!(xn.toList == yn.toList))) (y := true) ((str_bne _ _).trans (by rw [h15]; rfl)) (by kernel_rfl) ?_
        refine SL.pick (d := 27) (v := .bool true) (by kernel_rfl) ?_
        refine SL.run (d := 28) (v := .bool true) (by kernel_rfl) ?_
        refine SL.offs [16, 17, 18, 19, 20, 21, 22] (is := [23]) rfl (by kernel_rfl) ?_
        refine SL.pick (d := 36) (v := .bool true) (by kernel_rfl) ?_
        refine SL.nil ?_
        refine SC.next ?_
        refine SC.keep (l' := [(2, .pointer (some ⟨g1, 0, none⟩)), (3, .pointer (some ⟨g5, 0, none⟩)), (4, .bool false), (36, .bool true)]) [2, 3, 4, 36] (by kernel_rfl) ?_
        refine SC.yes (by kernel_rfl) ?_
        refine SC.seq (by kernel_rfl) ?_
        refine SC.region [0] (by kernel_rfl) (by kernel_rfl) ?_
        refine SL.run (d := 4) (v := .bool false) (by kernel_rfl) ?_
        refine SL.nil ?_
        refine SC.next ?_
        refine SC.ret (by kernel_rfl) ?_
        refine SQ.seqExit (by nofun) ?_
        refine SQ.ret1 (t := 4) (v := .bool false) (.inr rfl) (by kernel_rfl) (by kernel_rfl) ?_
        refine ⟨_, rfl, ?_, M14.bel⟩
        rw [hD]
        exact no_iff (fun q => absurd q.2.2.1 ‹_›)
end Go.Proofs.Ytgcjdkgeiopllaa
