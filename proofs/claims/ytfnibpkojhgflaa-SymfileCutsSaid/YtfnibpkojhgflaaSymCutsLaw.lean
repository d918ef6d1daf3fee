/- Walk: the law SymfileCuts. Printed by bin/gen_sym8cuts.py. -/
import Derived.Test.YtfnibpkojhgflaaSymKeysLaw
import Derived.Test.YtfnibpkojhgflaaFrStr
namespace Go.Proofs.Ytfnibpkojhgflaa
set_option linter.unusedVariables false
set_option linter.unusedSimpArgs false
open Go.RowKit
def withKey (f : FD) (l : List Int) : List Int := [83, 49] ++ (nameB f.name ++ (wordB (Key.of l) ++ l))
theorem own_flat {w : World} {a : Option Addr} {n c size : Nat} {e : TypeId} {xs : List Value} (h : w.ownsRow 0 e size (.slice a n c) n xs) : a = none ∨ ∃ b o, a = some ⟨b, o, none⟩ := by
  rcases h.2 with ⟨h2, _⟩ | ⟨g, cap, cur, hv, _⟩
  · simp only [Value.slice.injEq] at h2; exact .inl h2.1
  · simp only [Value.slice.injEq] at hv; exact .inr ⟨g, 0, hv.1⟩
theorem ofF_withKey {f : FD} (hf : FIn f) (l : List Int) : ofF (withKey f l) = ofRest f.name (Key.of l) l :=
  ofF_rest (rSome_full [83, 49] _ 2 rfl) (rNm_reads.full _ _ hf.name) (rWord_reads.full _ _ (key_bd _))
theorem rest_full8 {f : FD} (hf : FIn f) (t : List Int) : rRest8 (some (restF f ++ t)) = ((f.imps, f.types, f.objs), some t) := by
  have := rRest8_reads.full (f.imps, f.types, f.objs) t hf.rest
  rw [← rest8_eq] at this; exact this
theorem cut_none {f : FD} (hf : FIn f) (hb : ∀ x ∈ restF f, isByte x) {n : Nat} (hn : n < (restF f).length) : ofF (withKey f ((restF f).take n)) = none := by
  rw [ofF_withKey hf]
  cases h : ofRest f.name (Key.of ((restF f).take n)) ((restF f).take n) with
  | none => rfl
  | some y =>
    obtain ⟨g, k⟩ := y
    obtain ⟨_, _, _, e, _, hg⟩ := ofRest_sound (fun x hx => hb x (List.mem_of_mem_take hx)) hf.name h
    have h1 := rest_full8 hf []
    rw [List.append_nil] at h1
    have h2 := rest_full8 hg ((restF f).drop n)
    rw [← e, List.take_append_drop, h1] at h2
    have h3 := Option.some.inj (Prod.mk.inj h2).2
    have h4 : ((restF f).drop n).length = 0 := by rw [← h3]; rfl
    rw [List.length_drop] at h4
    omega
theorem more_none {f : FD} (hf : FIn f) {m : List Int} (hm : m ≠ []) : ofF (withKey f (restF f ++ m)) = none := by
  rw [ofF_withKey hf]
  unfold ofRest
  rw [if_pos rfl, rest_full8 hf m]
  cases m with
  | nil => exact absurd rfl hm
  | cons x m => rfl
theorem more_some {f : FD} (hf : FIn f) (hmy : mayFace f = true) : ofF (withKey f (restF f)) = some (f, Key.of (restF f)) := by
  rw [ofF_withKey hf]; exact ofRest_full hmy hf

theorem head_cells (s : ByteArray) : [Value.int .u8 83, .int .u8 49, .int .u8 ((s.size : Int) % 256)] ++ Lib.strCells s = ([83, 49] ++ nameB s).map (Value.int .u8) := by
  rw [strCells_bytes]; rfl
theorem headB_byte (s : ByteArray) : ∀ x ∈ [83, 49] ++ nameB s, isByte x := by
  intro x hx
  rcases List.mem_append.1 hx with h | h
  · exact s1_byte x h
  · unfold nameB at h
    rcases List.mem_cons.1 h with rfl | h
    · exact isb _
    · obtain ⟨c, _, rfl⟩ := List.mem_map.1 h
      exact ⟨Int.natCast_nonneg _, by have := c.toNat_lt; omega⟩
set_option maxRecDepth 100000 in
set_option maxHeartbeats 1000000 in
theorem cutsLaw_walk (x : Fc) (ct : Int) (ma : Option Addr) (mc : Nat) (ml : List Int) (w : World) (hx : x.Rd w) (hct : i64In ct) (hm : RdI .u8 w ma mc ml) : Calls Try.prog 7 #[x.val, .int .i64 ct, .slice ma ml.length mc] w fun e w' => e = .returned (.bool true) ∧ Below w.heap.size w w' := by
  obtain ⟨mu, hmu⟩ : ∃ b, muchF x.d = b := ⟨_, rfl⟩
  obtain ⟨my, hmy⟩ : ∃ b, mayFace x.d = b := ⟨_, rfl⟩
  obtain ⟨hct1, hct2⟩ := hct
  have hml := hm.len
  obtain ⟨xn, ⟨xa1, xc1, xl1⟩, ⟨xa2, xc2, xl2⟩, ⟨xa3, xc3, xl3⟩⟩ := x
  refine SC.enter (vs := [.agg #[.string xn, .slice xa1 xl1.length xc1, .slice xa2 xl2.length xc2, .slice xa3 xl3.length xc3], .int .i64 ct, .slice ma ml.length mc]) (n := 104) (l := [(0, .agg #[.string xn, .slice xa1 xl1.length xc1, .slice xa2 xl2.length xc2, .slice xa3 xl3.length xc3]), (1, .int .i64 ct), (2, .slice ma ml.length mc)]) Try.func7 (by kernel_rfl) (by kernel_rfl) (by kernel_rfl) (by kernel_rfl) ?_
  have M0 := Mem.start w
  refine SC.seq (by kernel_rfl) ?_
  refine SC.region [0, 1] (by kernel_rfl) (by kernel_rfl) ?_
  refine SL.boxM (d := 3) (t := 26) (v := .agg #[.string xn, .slice xa1 xl1.length xc1, .slice xa2 xl2.length xc2, .slice xa3 xl3.length xc3]) (cs := #[.string xn, .slice xa1 xl1.length xc1, .slice xa2 xl2.length xc2, .slice xa3 xl3.length xc3]) M0 (by kernel_rfl) rfl ?_
  intro g1 w2 hb3 ⟨bg1, lg1⟩ M4
  refine SL.run (d := 6) (v := .bool false) (by kernel_rfl) ?_
  refine SL.nil ?_
  refine SC.next ?_
  refine SC.seq (by kernel_rfl) ?_
  refine SC.seq (by kernel_rfl) ?_
  refine SC.region [0, 1, 2, 3, 4, 5, 6, 7, 8, 9, 10, 11] (by kernel_rfl) (by kernel_rfl) ?_
  refine SL.load (d := 17) (t := 26) (a := .pointer (some ⟨g1, 0, none⟩)) (v := .agg #[.string xn, .slice xa1 xl1.length xc1, .slice xa2 xl2.length xc2, .slice xa3 xl3.length xc3]) (by kernel_rfl) (M4.ldBox 0 rfl Try.underlying26 rfl (by kernel_rfl)) ?_
  refine SL.call (d := 18) (f := 9) (vs := [.agg #[.string xn, .slice xa1 xl1.length xc1, .slice xa2 xl2.length xc2, .slice xa3 xl3.length xc3]]) (by kernel_rfl) (by kernel_rfl) (by have := muchF_walk (⟨xn, ⟨xa1, xc1, xl1⟩, ⟨xa2, xc2, xl2⟩, ⟨xa3, xc3, xl3⟩⟩ : Fc) w2 (hx.bel M4.bel); rw [hmu] at this; exact this) ?_
  rintro e w5 ⟨rfl, hb6⟩
  refine ⟨_, rfl, ?_⟩
  have M7 := M4.call hb6
  refine SL.run (d := 19) (v := .bool mu) (by kernel_rfl) ?_
  cases mu
  · skip
    refine SL.load (d := 20) (t := 26) (a := .pointer (some ⟨g1, 0, none⟩)) (v := .agg #[.string xn, .slice xa1 xl1.length xc1, .slice xa2 xl2.length xc2, .slice xa3 xl3.length xc3]) (by kernel_rfl) (M7.ldBox 0 rfl Try.underlying26 rfl (by kernel_rfl)) ?_
    refine SL.call (d := 21) (f := 15) (vs := [.agg #[.string xn, .slice xa1 xl1.length xc1, .slice xa2 xl2.length xc2, .slice xa3 xl3.length xc3]]) (by kernel_rfl) (by kernel_rfl) (by have := rmay_walk (⟨xn, ⟨xa1, xc1, xl1⟩, ⟨xa2, xc2, xl2⟩, ⟨xa3, xc3, xl3⟩⟩ : Fc) w5 (hx.bel M7.bel); rw [hmy] at this; exact this) ?_
    rintro e w8 ⟨rfl, hb9⟩
    refine ⟨_, rfl, ?_⟩
    have M10 := M7.call hb9
    cases my
    · skip
      refine SL.run (d := 22) (v := .bool true) (by kernel_rfl) ?_
      refine SL.pick (d := 23) (v := .bool true) (by kernel_rfl) ?_
      refine SL.run (d := 24) (v := .bool true) (by kernel_rfl) ?_
      refine SL.offs [8, 9, 10] (is := [11]) rfl (by kernel_rfl) ?_
      refine SL.pick (d := 28) (v := .bool true) (by kernel_rfl) ?_
      refine SL.nil ?_
      refine SC.next ?_
      refine SC.yes (by kernel_rfl) ?_
      refine SC.seq (by kernel_rfl) ?_
      refine SC.region [0, 1] (by kernel_rfl) (by kernel_rfl) ?_
      refine SL.call (d := 29) (f := 11) (vs := []) (by kernel_rfl) (by kernel_rfl) (known_walk w8) ?_
      rintro e w11 ⟨rfl, hb12⟩
      refine ⟨_, rfl, ?_⟩
      have M13 := M10.call hb12
      refine SL.run (d := 6) (v := .bool true) (by kernel_rfl) ?_
      refine SL.nil ?_
      refine SC.next ?_
      refine SC.ret (by kernel_rfl) ?_
      refine SQ.seqExit (by nofun) ?_
      refine SQ.ret1 (t := 6) (v := .bool true) (.inr rfl) (by kernel_rfl) (by kernel_rfl) ?_
      exact ⟨rfl, M13.bel⟩
    · skip
      have hnm := may_name (x := (⟨xn, ⟨xa1, xc1, xl1⟩, ⟨xa2, xc2, xl2⟩, ⟨xa3, xc3, xl3⟩⟩ : Fc).d) hmy
      have hnm : xn.size ≤ 15 := hnm
      refine SL.run (d := 22) (v := .bool false) (by kernel_rfl) ?_
      refine SL.pick (d := 23) (v := .bool false) (by kernel_rfl) ?_
      refine SL.run (d := 24) (v := .bool false) (by kernel_rfl) ?_
      refine SL.run (d := 25) (v := .slice ma ml.length mc) (by kernel_rfl) ?_
      refine SL.builtin (d := 26) (b := .len) (ts := [46]) (ty := 3) (vs := [.slice ma ml.length mc]) (v := .int .i64 ((ml.length : Nat) : Int)) (by kernel_rfl) (fun k => run_len Try.underlying46 rfl k) ?_
      rcases Bool.eq_false_or_eq_true (decide ((100 : Int) < ((ml.length : Nat) : Int))) with h14 | h14
      · skip
        have ph14 : (100 : Int) < ((ml.length : Nat) : Int) := of_decide_eq_true h14
        refine SL.bool (d := 27) (x := (decide ((100 : Int) < ((ml.length : Nat) : Int)))) (y := true) h14 (by kernel_rfl) ?_
        refine SL.pick (d := 28) (v := .bool true) (by kernel_rfl) ?_
        refine SL.nil ?_
        refine SC.next ?_
        refine SC.yes (by kernel_rfl) ?_
        refine SC.seq (by kernel_rfl) ?_
        refine SC.region [0, 1] (by kernel_rfl) (by kernel_rfl) ?_
        refine SL.call (d := 29) (f := 11) (vs := []) (by kernel_rfl) (by kernel_rfl) (known_walk w8) ?_
        rintro e w15 ⟨rfl, hb16⟩
        refine ⟨_, rfl, ?_⟩
        have M17 := M10.call hb16
        refine SL.run (d := 6) (v := .bool true) (by kernel_rfl) ?_
        refine SL.nil ?_
        refine SC.next ?_
        refine SC.keep (l' := [(1, .int .i64 ct), (2, .slice ma ml.length mc), (3, .pointer (some ⟨g1, 0, none⟩)), (6, .bool true)]) [1, 2, 3, 6] (by kernel_rfl) ?_
        refine SC.ret (by kernel_rfl) ?_
        refine SQ.seqExit (by nofun) ?_
        refine SQ.ret1 (t := 6) (v := .bool true) (.inr rfl) (by kernel_rfl) (by kernel_rfl) ?_
        exact ⟨rfl, M17.bel⟩
      · skip
        have ph14 : ¬ ((100 : Int) < ((ml.length : Nat) : Int)) := of_decide_eq_false h14
        refine SL.bool (d := 27) (x := (decide ((100 : Int) < ((ml.length : Nat) : Int)))) (y := false) h14 (by kernel_rfl) ?_
        refine SL.pick (d := 28) (v := .bool false) (by kernel_rfl) ?_
        refine SL.nil ?_
        refine SC.next ?_
        refine SC.no (by kernel_rfl) ?_
        refine SC.skip (by kernel_rfl) ?_
        refine SC.next ?_
        refine SC.seq (by kernel_rfl) ?_
        refine SC.region [0, 1, 2, 3, 4, 5, 6, 7, 8] (by kernel_rfl) (by kernel_rfl) ?_
        refine SL.run (d := 30) (v := .pointer (some ⟨g1, 0, none⟩)) (by kernel_rfl) ?_
        refine SL.load (d := 31) (t := 9) (a := .pointer (some ⟨g1, 0, none⟩)) (v := .string xn) (by kernel_rfl) (M10.ldCell 0 rfl (j := 0) (v := .string xn) rfl Try.underlying9 rfl) ?_
        refine SL.builtin (d := 32) (b := .len) (ts := [9]) (ty := 3) (vs := [.string xn]) (v := .int .i64 ((xn.size : Nat) : Int)) (by kernel_rfl) (fun k => run_slen Try.underlying9 k) ?_
        refine SL.int (d := 33) (q := .u8) (x := IntKind.wrap .u8 ((xn.size : Nat) : Int)) (y := ((xn.size : Nat) : Int) % 256) (wrap8m _) (by kernel_rfl) ?_
        refine SL.buildSliceM (d := 34) (t := 46) (e := 5) (len := 3) (size := 1) (z := .int .u8 0) (ps := [(0, .int .u8 83), (1, .int .u8 49), (2, .int .u8 (((xn.size : Nat) : Int) % 256))]) (cs := #[.int .u8 83, .int .u8 49, .int .u8 (((xn.size : Nat) : Int) % 256)]) M10 (by kernel_rfl) Try.underlying46 (by kernel_rfl) rfl rfl (by kernel_rfl) ?_
        intro g18 w19 hb20 ⟨bg18, lg18⟩ M21
        refine SL.run (d := 35) (v := .pointer (some ⟨g1, 0, none⟩)) (by kernel_rfl) ?_
        refine SL.load (d := 36) (t := 9) (a := .pointer (some ⟨g1, 0, none⟩)) (v := .string xn) (by kernel_rfl) (M21.ldCell 1 rfl (j := 0) (v := .string xn) rfl Try.underlying9 rfl) ?_
        have M22 := Mem.boxRow M21 0 rfl (n := 3) rfl rfl (xs := [.int .u8 83, .int .u8 49, .int .u8 (((xn.size : Nat) : Int) % 256)]) rfl
        refine SL.appendM (d := 37) (ts := [46, 9]) (ty := 46) (vs := [.slice (some ⟨g18, 0, none⟩) 3 3, .string xn]) (k' := 3 + xn.size) (L' := fun a23 c24 => [rw' a23 (3 + xn.size) c24 5 1 ([.int .u8 83, .int .u8 49, .int .u8 (((xn.size : Nat) : Int) % 256)] ++ Lib.strCells xn), bx g1 #[.string xn, .slice xa1 xl1.length xc1, .slice xa2 xl2.length xc2, .slice xa3 xl3.length xc3] 26]) (by kernel_rfl) (Mem.appendStr M22 0 rfl Try.underlying46 Try.underlying9 (by kernel_rfl) xn (by omega) rfl) ?_
        intro a23 c24 w25 M26 hk27
        refine SL.run (d := 7) (v := .slice a23 (3 + xn.size) c24) (by kernel_rfl) ?_
        refine SL.nil ?_
        refine SC.next ?_
        refine SC.keep (l' := [(1, .int .i64 ct), (2, .slice ma ml.length mc), (3, .pointer (some ⟨g1, 0, none⟩)), (6, .bool false), (7, .slice a23 (3 + xn.size) c24)]) [1, 2, 3, 6, 7] (by kernel_rfl) ?_
        refine SC.seq (by kernel_rfl) ?_
        refine SC.region [0, 1, 2] (by kernel_rfl) (by kernel_rfl) ?_
        refine SL.load (d := 38) (t := 26) (a := .pointer (some ⟨g1, 0, none⟩)) (v := .agg #[.string xn, .slice xa1 xl1.length xc1, .slice xa2 xl2.length xc2, .slice xa3 xl3.length xc3]) (by kernel_rfl) (M26.ldBox 1 rfl Try.underlying26 rfl (by kernel_rfl)) ?_
        refine SL.call (d := 39) (f := 20) (vs := [.agg #[.string xn, .slice xa1 xl1.length xc1, .slice xa2 xl2.length xc2, .slice xa3 xl3.length xc3]]) (by kernel_rfl) (by kernel_rfl) (rrest_walk (⟨xn, ⟨xa1, xc1, xl1⟩, ⟨xa2, xc2, xl2⟩, ⟨xa3, xc3, xl3⟩⟩ : Fc) w25 (hx.bel M26.bel) (small_of hmy)) ?_
        rintro e w28 ⟨ra, rc, rfl, hR, hb29⟩
        refine ⟨_, rfl, ?_⟩
        have M30 := M26.call hb29
        have hHl : ([83, 49] ++ nameB xn).length = 3 + xn.size := by unfold nameB; simp only [List.length_append, List.length_cons, bytesI_len, List.length_nil]; omega
        have hx2 : [.int .u8 83, .int .u8 49, .int .u8 (((xn.size : Nat) : Int) % 256)] ++ Lib.strCells xn = ([83, 49] ++ nameB xn).map (Value.int .u8) := head_cells xn
        have hH : RdI .u8 w28 a23 c24 ([83, 49] ++ nameB xn) := by
          have h := M30.rd 0 rfl
          rw [hx2] at h
          exact ⟨by rw [hHl]; exact h, fun y hy => bd_u8' (headB_byte xn y hy)⟩
        have hB4 := M30.bel
        have hm4 := hm.below hB4 (Nat.le_refl _)
        have hRL := rest_len (small_of (f := (⟨xn, ⟨xa1, xc1, xl1⟩, ⟨xa2, xc2, xl2⟩, ⟨xa3, xc3, xl3⟩⟩ : Fc)) hmy)
        have hR0 : 6 ≤ (restF (⟨xn, ⟨xa1, xc1, xl1⟩, ⟨xa2, xc2, xl2⟩, ⟨xa3, xc3, xl3⟩⟩ : Fc).d).length := by rw [rest8_eq]; unfold rest8; simp only [List.length_append, List.length_cons, List.length_nil]; have : (wordB (((⟨xn, ⟨xa1, xc1, xl1⟩, ⟨xa2, xc2, xl2⟩, ⟨xa3, xc3, xl3⟩⟩ : Fc).d.objs.length : Nat) : Int)).length = 4 := rfl; omega
        obtain ⟨rb, ro, hr1, _⟩ := hR.cells
        obtain rfl := (hr1 (by omega)).1
        have hbR : ∀ y ∈ (restF (⟨xn, ⟨xa1, xc1, xl1⟩, ⟨xa2, xc2, xl2⟩, ⟨xa3, xc3, xl3⟩⟩ : Fc).d), isByte y := fun y hy => bd_u8 (hR.bd y hy)
        have hRc := hR.row.le
        have M31 := Mem.start w28
        refine SL.run (d := 8) (v := .slice (some ⟨rb, ro, none⟩) ((restF (⟨xn, ⟨xa1, xc1, xl1⟩, ⟨xa2, xc2, xl2⟩, ⟨xa3, xc3, xl3⟩⟩ : Fc).d).length) rc) (by kernel_rfl) ?_
        refine SL.nil ?_
        refine SC.next ?_
        refine SC.seq (by kernel_rfl) ?_
        refine SC.region [0, 1, 2, 3, 4, 5, 6, 7, 8, 9, 10] (by kernel_rfl) (by kernel_rfl) ?_
        refine SL.run (d := 40) (v := .int .i64 ct) (by kernel_rfl) ?_
        refine SL.run (d := 41) (v := .slice (some ⟨rb, ro, none⟩) ((restF (⟨xn, ⟨xa1, xc1, xl1⟩, ⟨xa2, xc2, xl2⟩, ⟨xa3, xc3, xl3⟩⟩ : Fc).d).length) rc) (by kernel_rfl) ?_
        refine SL.builtin (d := 42) (b := .len) (ts := [46]) (ty := 3) (vs := [.slice (some ⟨rb, ro, none⟩) ((restF (⟨xn, ⟨xa1, xc1, xl1⟩, ⟨xa2, xc2, xl2⟩, ⟨xa3, xc3, xl3⟩⟩ : Fc).d).length) rc]) (v := .int .i64 (((restF (⟨xn, ⟨xa1, xc1, xl1⟩, ⟨xa2, xc2, xl2⟩, ⟨xa3, xc3, xl3⟩⟩ : Fc).d).length : Nat) : Int)) (by kernel_rfl) (fun k => run_len Try.underlying46 rfl k) ?_
        obtain ⟨tq, htq⟩ : ∃ z, Int.tmod ct (((restF (⟨xn, ⟨xa1, xc1, xl1⟩, ⟨xa2, xc2, xl2⟩, ⟨xa3, xc3, xl3⟩⟩ : Fc).d).length : Nat) : Int) = z := ⟨_, rfl⟩
        have htq1 : -(((restF (⟨xn, ⟨xa1, xc1, xl1⟩, ⟨xa2, xc2, xl2⟩, ⟨xa3, xc3, xl3⟩⟩ : Fc).d).length : Nat) : Int) < tq ∧ tq < (((restF (⟨xn, ⟨xa1, xc1, xl1⟩, ⟨xa2, xc2, xl2⟩, ⟨xa3, xc3, xl3⟩⟩ : Fc).d).length : Nat) : Int) := by
          have h1 := Int.tmod_lt_of_pos ct (b := (((restF (⟨xn, ⟨xa1, xc1, xl1⟩, ⟨xa2, xc2, xl2⟩, ⟨xa3, xc3, xl3⟩⟩ : Fc).d).length : Nat) : Int)) (by omega)
          have h2 := Int.lt_tmod_of_pos ct (b := (((restF (⟨xn, ⟨xa1, xc1, xl1⟩, ⟨xa2, xc2, xl2⟩, ⟨xa3, xc3, xl3⟩⟩ : Fc).d).length : Nat) : Int)) (by omega)
          rw [htq] at h1 h2
          exact ⟨h2, h1⟩
        refine SL.rem (d := 43) (t := 3) (k := .i64) (a := ct) (b := (((restF (⟨xn, ⟨xa1, xc1, xl1⟩, ⟨xa2, xc2, xl2⟩, ⟨xa3, xc3, xl3⟩⟩ : Fc).d).length : Nat) : Int)) (r := tq) htq (by kernel_rfl) (by omega) ?_
        refine SL.run (d := 44) (v := .slice (some ⟨rb, ro, none⟩) ((restF (⟨xn, ⟨xa1, xc1, xl1⟩, ⟨xa2, xc2, xl2⟩, ⟨xa3, xc3, xl3⟩⟩ : Fc).d).length) rc) (by kernel_rfl) ?_
        refine SL.builtin (d := 45) (b := .len) (ts := [46]) (ty := 3) (vs := [.slice (some ⟨rb, ro, none⟩) ((restF (⟨xn, ⟨xa1, xc1, xl1⟩, ⟨xa2, xc2, xl2⟩, ⟨xa3, xc3, xl3⟩⟩ : Fc).d).length) rc]) (v := .int .i64 (((restF (⟨xn, ⟨xa1, xc1, xl1⟩, ⟨xa2, xc2, xl2⟩, ⟨xa3, xc3, xl3⟩⟩ : Fc).d).length : Nat) : Int)) (by kernel_rfl) (fun k => run_len Try.underlying46 rfl k) ?_
        refine SL.int (d := 46) (q := .i64) (x := IntKind.wrap .i64 (tq + (((restF (⟨xn, ⟨xa1, xc1, xl1⟩, ⟨xa2, xc2, xl2⟩, ⟨xa3, xc3, xl3⟩⟩ : Fc).d).length : Nat) : Int))) (y := tq + (((restF (⟨xn, ⟨xa1, xc1, xl1⟩, ⟨xa2, xc2, xl2⟩, ⟨xa3, xc3, xl3⟩⟩ : Fc).d).length : Nat) : Int)) (wr64 (by omega) (by omega) (by omega)) (by kernel_rfl) ?_
        refine SL.run (d := 47) (v := .slice (some ⟨rb, ro, none⟩) ((restF (⟨xn, ⟨xa1, xc1, xl1⟩, ⟨xa2, xc2, xl2⟩, ⟨xa3, xc3, xl3⟩⟩ : Fc).d).length) rc) (by kernel_rfl) ?_
        refine SL.builtin (d := 48) (b := .len) (ts := [46]) (ty := 3) (vs := [.slice (some ⟨rb, ro, none⟩) ((restF (⟨xn, ⟨xa1, xc1, xl1⟩, ⟨xa2, xc2, xl2⟩, ⟨xa3, xc3, xl3⟩⟩ : Fc).d).length) rc]) (v := .int .i64 (((restF (⟨xn, ⟨xa1, xc1, xl1⟩, ⟨xa2, xc2, xl2⟩, ⟨xa3, xc3, xl3⟩⟩ : Fc).d).length : Nat) : Int)) (by kernel_rfl) (fun k => run_len Try.underlying46 rfl k) ?_
        obtain ⟨nn, hnn⟩ : ∃ z : Nat, Int.tmod (tq + (((restF (⟨xn, ⟨xa1, xc1, xl1⟩, ⟨xa2, xc2, xl2⟩, ⟨xa3, xc3, xl3⟩⟩ : Fc).d).length : Nat) : Int)) (((restF (⟨xn, ⟨xa1, xc1, xl1⟩, ⟨xa2, xc2, xl2⟩, ⟨xa3, xc3, xl3⟩⟩ : Fc).d).length : Nat) : Int) = (z : Int) := ⟨_, (Int.toNat_of_nonneg (Int.tmod_nonneg _ (by omega))).symm⟩
        have hnl : nn < (restF (⟨xn, ⟨xa1, xc1, xl1⟩, ⟨xa2, xc2, xl2⟩, ⟨xa3, xc3, xl3⟩⟩ : Fc).d).length := by have h1 := Int.tmod_lt_of_pos (tq + (((restF (⟨xn, ⟨xa1, xc1, xl1⟩, ⟨xa2, xc2, xl2⟩, ⟨xa3, xc3, xl3⟩⟩ : Fc).d).length : Nat) : Int)) (b := (((restF (⟨xn, ⟨xa1, xc1, xl1⟩, ⟨xa2, xc2, xl2⟩, ⟨xa3, xc3, xl3⟩⟩ : Fc).d).length : Nat) : Int)) (by omega); rw [hnn] at h1; omega
        refine SL.rem (d := 49) (t := 3) (k := .i64) (a := tq + (((restF (⟨xn, ⟨xa1, xc1, xl1⟩, ⟨xa2, xc2, xl2⟩, ⟨xa3, xc3, xl3⟩⟩ : Fc).d).length : Nat) : Int)) (b := (((restF (⟨xn, ⟨xa1, xc1, xl1⟩, ⟨xa2, xc2, xl2⟩, ⟨xa3, xc3, xl3⟩⟩ : Fc).d).length : Nat) : Int)) (r := ((nn : Nat) : Int)) hnn (by kernel_rfl) (by omega) ?_
        refine SL.run (d := 9) (v := .int .i64 ((nn : Nat) : Int)) (by kernel_rfl) ?_
        refine SL.nil ?_
        refine SC.next ?_
        refine SC.keep (l' := [(2, .slice ma ml.length mc), (6, .bool false), (7, .slice a23 (3 + xn.size) c24), (8, .slice (some ⟨rb, ro, none⟩) ((restF (⟨xn, ⟨xa1, xc1, xl1⟩, ⟨xa2, xc2, xl2⟩, ⟨xa3, xc3, xl3⟩⟩ : Fc).d).length) rc), (9, .int .i64 ((nn : Nat) : Int))]) [2, 6, 7, 8, 9] (by kernel_rfl) ?_
        refine SC.seq (by kernel_rfl) ?_
        refine SC.orders (fun _ => NewG w28) 9 (by kernel_rfl) (by kernel_rfl) (by kernel_rfl) ?_
        intro w34 hb35
        have M36 := M31.call hb35
        have acc37 : Ke (NewG w28) w28 w34 := Ke.below _ M36.bel
        refine SR.step (r := 3) [0, 1, 2, 3, 5] [4] (PanOk.seq PanOk.body) (by kernel_rfl) (by kernel_rfl) (by kernel_rfl) rfl (by kernel_rfl) ?_
        refine SU.run (d := 50) (v := .slice (some ⟨rb, ro, none⟩) ((restF (⟨xn, ⟨xa1, xc1, xl1⟩, ⟨xa2, xc2, xl2⟩, ⟨xa3, xc3, xl3⟩⟩ : Fc).d).length) rc) (fun y hy => by kernel_rfl) ?_
        refine SU.run (d := 51) (v := .int .i64 ((nn : Nat) : Int)) (fun y hy => by kernel_rfl) ?_
        refine SU.ex (d := 52) (m := Instr.sliceAt 46 (.slice (some ⟨rb, ro, none⟩) ((restF (⟨xn, ⟨xa1, xc1, xl1⟩, ⟨xa2, xc2, xl2⟩, ⟨xa3, xc3, xl3⟩⟩ : Fc).d).length) rc) none (some (.int .i64 ((nn : Nat) : Int))) none) (v := .slice (some ⟨rb, ro, none⟩) nn rc) (by kernel_rfl) (fun y hy => (cut_h nn Try.underlying46 (by kernel_rfl) rfl (by omega))) ?_
        refine SU.run (d := 53) (v := .slice (some ⟨rb, ro, none⟩) ((restF (⟨xn, ⟨xa1, xc1, xl1⟩, ⟨xa2, xc2, xl2⟩, ⟨xa3, xc3, xl3⟩⟩ : Fc).d).length) rc) (fun y hy => by kernel_rfl) ?_
        refine SU.run (d := 55) (v := .slice ma ml.length mc) (fun y hy => by kernel_rfl) ?_
        refine SU.each1 ?_
        refine SL.appendM (d := 54) (ts := [46, 46]) (ty := 46) (vs := [.slice none 0 0, .slice (some ⟨rb, ro, none⟩) ((restF (⟨xn, ⟨xa1, xc1, xl1⟩, ⟨xa2, xc2, xl2⟩, ⟨xa3, xc3, xl3⟩⟩ : Fc).d).length) rc]) (k' := (restF (⟨xn, ⟨xa1, xc1, xl1⟩, ⟨xa2, xc2, xl2⟩, ⟨xa3, xc3, xl3⟩⟩ : Fc).d).length) (L' := fun a38 c39 => [rw' a38 ((restF (⟨xn, ⟨xa1, xc1, xl1⟩, ⟨xa2, xc2, xl2⟩, ⟨xa3, xc3, xl3⟩⟩ : Fc).d).length) c39 5 1 ((restF (⟨xn, ⟨xa1, xc1, xl1⟩, ⟨xa2, xc2, xl2⟩, ⟨xa3, xc3, xl3⟩⟩ : Fc).d).map (Value.int .u8))]) (by kernel_rfl) (Mem.append (m := (restF (⟨xn, ⟨xa1, xc1, xl1⟩, ⟨xa2, xc2, xl2⟩, ⟨xa3, xc3, xl3⟩⟩ : Fc).d).length) (news := ((restF (⟨xn, ⟨xa1, xc1, xl1⟩, ⟨xa2, xc2, xl2⟩, ⟨xa3, xc3, xl3⟩⟩ : Fc).d).map (Value.int .u8))) (Mem.addNil (e := 5) (size := 1) M36) 0 rfl (ET.of Try.underlying46 (by kernel_rfl) (by decide) (by decide) : ET Try.prog 46 5 (.int .u8 0) 1 1) (hR.below M36.bel (Nat.le_refl _)).row (by rw [List.length_map, Nat.mul_one]) (fun u hu => by obtain ⟨z, _, rfl⟩ := List.mem_map.1 hu; rfl) (by omega) (by omega) (by omega)) ?_
        intro a38 c39 w40 M41 hk42
        have ke43 : Ke (NewG w28) _ _ := Ke.mono hk42 (fun i _ e => Mem.lo (Mem.addNil (e := 5) (size := 1) M36) 0 rfl e)
        have acc44 := Ke.trans acc37 ke43
        refine SL.nil ?_
        refine SR.back ke43 ?_
        refine SR.norm (ls' := [0, 1, 2, 3, 5, 4]) rfl ?_
        refine SR.step (r := 2) [] [6] (PanOk.seq PanOk.body) (by kernel_rfl) (by kernel_rfl) (by kernel_rfl) rfl (by kernel_rfl) ?_
        refine SU.each1 ?_
        refine SL.appendM (d := 56) (ts := [46, 46]) (ty := 46) (vs := [.slice a38 ((restF (⟨xn, ⟨xa1, xc1, xl1⟩, ⟨xa2, xc2, xl2⟩, ⟨xa3, xc3, xl3⟩⟩ : Fc).d).length) c39, .slice ma ml.length mc]) (k' := ((restF (⟨xn, ⟨xa1, xc1, xl1⟩, ⟨xa2, xc2, xl2⟩, ⟨xa3, xc3, xl3⟩⟩ : Fc).d).length) + ml.length) (L' := fun a45 c46 => [rw' a45 (((restF (⟨xn, ⟨xa1, xc1, xl1⟩, ⟨xa2, xc2, xl2⟩, ⟨xa3, xc3, xl3⟩⟩ : Fc).d).length) + ml.length) c46 5 1 (((restF (⟨xn, ⟨xa1, xc1, xl1⟩, ⟨xa2, xc2, xl2⟩, ⟨xa3, xc3, xl3⟩⟩ : Fc).d).map (Value.int .u8)) ++ (ml.map (Value.int .u8)))]) (by kernel_rfl) (Mem.append (m := ml.length) (news := (ml.map (Value.int .u8))) M41 0 rfl (ET.of Try.underlying46 (by kernel_rfl) (by decide) (by decide) : ET Try.prog 46 5 (.int .u8 0) 1 1) (hm4.below M41.bel (Nat.le_refl _)).row (by rw [List.length_map, Nat.mul_one]) (fun u hu => by obtain ⟨z, _, rfl⟩ := List.mem_map.1 hu; rfl) (by omega) (by omega) (by omega)) ?_
        intro a45 c46 w47 M48 hk49
        have ke50 : Ke (NewG w28) _ _ := Ke.mono hk49 (fun i _ e => Mem.lo M41 0 rfl e)
        have acc51 := Ke.trans acc44 ke50
        refine SL.nil ?_
        refine SR.back ke50 ?_
        refine SR.norm (ls' := [0, 1, 2, 3, 5, 4, 6]) rfl ?_
        refine SR.step (r := 1) [] [7] (PanOk.seq PanOk.body) (by kernel_rfl) (by kernel_rfl) (by kernel_rfl) rfl (by kernel_rfl) ?_
        refine SU.each1 ?_
        refine SL.buildSliceM (d := 57) (t := 58) (e := 46) (len := 2) (size := 1) (z := .slice none 0 0) (ps := [(0, .slice (some ⟨rb, ro, none⟩) nn rc), (1, .slice a45 (((restF (⟨xn, ⟨xa1, xc1, xl1⟩, ⟨xa2, xc2, xl2⟩, ⟨xa3, xc3, xl3⟩⟩ : Fc).d).length) + ml.length) c46)]) (cs := #[.slice (some ⟨rb, ro, none⟩) nn rc, .slice a45 (((restF (⟨xn, ⟨xa1, xc1, xl1⟩, ⟨xa2, xc2, xl2⟩, ⟨xa3, xc3, xl3⟩⟩ : Fc).d).length) + ml.length) c46]) M48 (by kernel_rfl) Try.underlying58 (by kernel_rfl) rfl rfl (by kernel_rfl) ?_
        intro g52 w53 hb54 ⟨bg52, lg52⟩ M55
        have ke56 : Ke (NewG w28) _ _ := Ke.below _ hb54
        have ng52 : w28.heap.size ≤ g52 := Nat.le_trans (Ke.size acc51) bg52
        have acc57 := Ke.trans acc51 ke56
        refine SL.nil ?_
        refine SR.back ke56 ?_
        refine SR.norm (ls' := [0, 1, 2, 3, 5, 4, 6, 7]) rfl ?_
        refine SR.last [8] (PanOk.seq PanOk.body) (by kernel_rfl) (by kernel_rfl) (by kernel_rfl) (by kernel_rfl) ?_
        refine SU.run (d := 10) (v := .slice (some ⟨g52, 0, none⟩) 2 2) (fun y hy => by kernel_rfl) ?_
        refine SU.done ?_
        refine SC.next ?_
        refine SC.seq (by kernel_rfl) ?_
        refine SC.seq (by kernel_rfl) ?_
        refine SC.region [0] (by kernel_rfl) (by kernel_rfl) ?_
        refine SL.run (d := 11) (v := .int .i64 0) (by kernel_rfl) ?_
        refine SL.nil ?_
        refine SC.next ?_
        refine SC.block (i := 0) (by kernel_rfl) ?_
        refine SC.loopA (X := Nat) (fun x => [(2, .slice ma ml.length mc), (6, .bool false), (7, .slice a23 (3 + xn.size) c24), (10, .slice (some ⟨g52, 0, none⟩) 2 2), (11, .int .i64 ((x : Nat) : Int))]) (fun x wr => Mem w28 wr ([bx g52 #[.slice (some ⟨rb, ro, none⟩) nn rc, .slice a45 (((restF (⟨xn, ⟨xa1, xc1, xl1⟩, ⟨xa2, xc2, xl2⟩, ⟨xa3, xc3, xl3⟩⟩ : Fc).d).length) + ml.length) c46] 46, rw' a45 (((restF (⟨xn, ⟨xa1, xc1, xl1⟩, ⟨xa2, xc2, xl2⟩, ⟨xa3, xc3, xl3⟩⟩ : Fc).d).length) + ml.length) c46 5 1 (((restF (⟨xn, ⟨xa1, xc1, xl1⟩, ⟨xa2, xc2, xl2⟩, ⟨xa3, xc3, xl3⟩⟩ : Fc).d).map (Value.int .u8)) ++ (ml.map (Value.int .u8)))]) ∧ (x ≤ 2)) (fun x => 3 - x) (PanOk.block (PanOk.seq PanOk.body)) (by kernel_rfl) 0 (by kernel_rfl) ⟨M55, Nat.zero_le _⟩ ?_
        rintro i w63 ⟨M64, hI58⟩ Q59 ag60 ex61 pn62
        replace M64 : Mem w28 w63 ([bx g52 #[.slice (some ⟨rb, ro, none⟩) nn rc, .slice a45 (((restF (⟨xn, ⟨xa1, xc1, xl1⟩, ⟨xa2, xc2, xl2⟩, ⟨xa3, xc3, xl3⟩⟩ : Fc).d).length) + ml.length) c46] 46, rw' a45 (((restF (⟨xn, ⟨xa1, xc1, xl1⟩, ⟨xa2, xc2, xl2⟩, ⟨xa3, xc3, xl3⟩⟩ : Fc).d).length) + ml.length) c46 5 1 (((restF (⟨xn, ⟨xa1, xc1, xl1⟩, ⟨xa2, xc2, xl2⟩, ⟨xa3, xc3, xl3⟩⟩ : Fc).d).map (Value.int .u8)) ++ (ml.map (Value.int .u8)))]) := M64
        replace hI58 : i ≤ 2 := hI58
        show SC _ _ _ _ _ [(2, .slice ma ml.length mc), (6, .bool false), (7, .slice a23 (3 + xn.size) c24), (10, .slice (some ⟨g52, 0, none⟩) 2 2), (11, .int .i64 ((i : Nat) : Int))] _
        have hi2 := hI58
        refine SC.seq (by kernel_rfl) ?_
        refine SC.seq (by kernel_rfl) ?_
        refine SC.region [0, 1] (by kernel_rfl) (by kernel_rfl) ?_
        refine SL.run (d := 58) (v := .int .i64 ((i : Nat) : Int)) (by kernel_rfl) ?_
        rcases Bool.eq_false_or_eq_true (decide (((i : Nat) : Int) < (2 : Int))) with h65 | h65
        · skip
          have ph65 : ((i : Nat) : Int) < (2 : Int) := of_decide_eq_true h65
          obtain rfl | rfl : i = 0 ∨ i = 1 := by omega
          · skip
            refine SL.run (d := 59) (v := .bool true) (by kernel_rfl) ?_
            refine SL.nil ?_
            refine SC.next ?_
            refine SC.yes (by kernel_rfl) ?_
            refine SC.skip (by kernel_rfl) ?_
            refine SC.next ?_
            refine SC.seq (by kernel_rfl) ?_
            refine SC.block (i := 1) (by kernel_rfl) ?_
            refine SC.seq (by kernel_rfl) ?_
            refine SC.region [0, 1, 2, 3, 4, 5] (by kernel_rfl) (by kernel_rfl) ?_
            refine SL.run (d := 62) (v := .slice (some ⟨g52, 0, none⟩) 2 2) (by kernel_rfl) ?_
            refine SL.run (d := 63) (v := .int .i64 0) (by kernel_rfl) ?_
            refine SL.index (d := 64) (t := 58) (e := 46) (b := g52) (o := 0) (len := 2) (cap := 2) (sz := 1) (k := .i64) (m := 0) 0 (by kernel_rfl) Try.underlying58 (by kernel_rfl) rfl (by omega) ?_
            refine SL.load (d := 65) (t := 46) (a := .pointer (some ⟨g52, 0, none⟩)) (v := .slice (some ⟨rb, ro, none⟩) nn rc) (by kernel_rfl) (M64.ldCell 0 rfl (j := 0) (v := .slice (some ⟨rb, ro, none⟩) nn rc) rfl Try.underlying46 rfl) ?_
            have hk0 := ((hR.below M64.bel (Nat.le_refl _)).take nn (by omega))
            have htl := hk0.2
            obtain ⟨KK, hKK⟩ : ∃ k, Key.of ((restF (⟨xn, ⟨xa1, xc1, xl1⟩, ⟨xa2, xc2, xl2⟩, ⟨xa3, xc3, xl3⟩⟩ : Fc).d).take nn) = k := ⟨_, rfl⟩
            have hKb : 0 ≤ KK ∧ KK < 4294967296 := by rw [← hKK]; exact Key.of_bd _
            refine SL.call (d := 66) (f := 21) (vs := [.slice (some ⟨rb, ro, none⟩) nn rc]) (by kernel_rfl) (by kernel_rfl) (by have := fkey_walk _ _ _ w63 hk0.1; rw [hk0.2, hKK] at this; exact this) ?_
            rintro e _ ⟨rfl, rfl⟩
            refine ⟨_, rfl, ?_⟩
            refine SL.run (d := 12) (v := .int .u32 KK) (by kernel_rfl) ?_
            refine SL.nil ?_
            refine SC.next ?_
            refine SC.seq (by kernel_rfl) ?_
            refine SC.region [0, 1, 2, 3, 4, 5, 6, 7, 8, 9, 10, 11, 12, 13, 14, 15] (by kernel_rfl) (by kernel_rfl) ?_
            refine SL.run (d := 67) (v := .slice a23 (3 + xn.size) c24) (by kernel_rfl) ?_
            refine SL.appendM (d := 68) (ts := [46, 46]) (ty := 46) (vs := [.slice none 0 0, .slice a23 (3 + xn.size) c24]) (k' := 3 + xn.size) (L' := fun a69 c70 => [rw' a69 (3 + xn.size) c70 5 1 (([83, 49] ++ nameB xn).map (Value.int .u8)), bx g52 #[.slice (some ⟨rb, ro, none⟩) nn rc, .slice a45 (((restF (⟨xn, ⟨xa1, xc1, xl1⟩, ⟨xa2, xc2, xl2⟩, ⟨xa3, xc3, xl3⟩⟩ : Fc).d).length) + ml.length) c46] 46, rw' a45 (((restF (⟨xn, ⟨xa1, xc1, xl1⟩, ⟨xa2, xc2, xl2⟩, ⟨xa3, xc3, xl3⟩⟩ : Fc).d).length) + ml.length) c46 5 1 (((restF (⟨xn, ⟨xa1, xc1, xl1⟩, ⟨xa2, xc2, xl2⟩, ⟨xa3, xc3, xl3⟩⟩ : Fc).d).map (Value.int .u8)) ++ (ml.map (Value.int .u8)))]) (by kernel_rfl) (Mem.append (m := 3 + xn.size) (news := (([83, 49] ++ nameB xn).map (Value.int .u8))) (Mem.addNil (e := 5) (size := 1) M64) 0 rfl (ET.of Try.underlying46 (by kernel_rfl) (by decide) (by decide) : ET Try.prog 46 5 (.int .u8 0) 1 1) (by have := (hH.below M64.bel (Nat.le_refl _)).row; rw [hHl] at this; exact this) (by rw [List.length_map, Nat.mul_one]; exact hHl) (fun u hu => by obtain ⟨z, _, rfl⟩ := List.mem_map.1 hu; rfl) (by omega) (by omega) (by omega)) ?_
            intro a69 c70 w71 M72 hk73
            have hb74 : Below _ _ w71 := hk73.toBelow (fun i _ e => (by cases e))
            refine SL.run (d := 69) (v := .int .u32 KK) (by kernel_rfl) ?_
            refine SL.int (d := 70) (q := .u8) (x := IntKind.wrap .u8 KK) (y := KK % 256) (wrap8m _) (by kernel_rfl) ?_
            refine SL.run (d := 71) (v := .int .u32 KK) (by kernel_rfl) ?_
            refine SL.int (d := 72) (q := .u32) (x := Int.fdiv KK (2 ^ 8)) (y := KK / 256) (fdiv_pow 256 (by decide) (by decide)) (by kernel_rfl) ?_
            refine SL.int (d := 73) (q := .u8) (x := IntKind.wrap .u8 (KK / 256)) (y := (KK / 256) % 256) (wrap8m _) (by kernel_rfl) ?_
            refine SL.run (d := 74) (v := .int .u32 KK) (by kernel_rfl) ?_
            refine SL.int (d := 75) (q := .u32) (x := Int.fdiv KK (2 ^ 16)) (y := KK / 65536) (fdiv_pow 65536 (by decide) (by decide)) (by kernel_rfl) ?_
            refine SL.int (d := 76) (q := .u8) (x := IntKind.wrap .u8 (KK / 65536)) (y := (KK / 65536) % 256) (wrap8m _) (by kernel_rfl) ?_
            refine SL.run (d := 77) (v := .int .u32 KK) (by kernel_rfl) ?_
            refine SL.int (d := 78) (q := .u32) (x := Int.fdiv KK (2 ^ 24)) (y := KK / 16777216) (fdiv_pow 16777216 (by decide) (by decide)) (by kernel_rfl) ?_
            refine SL.int (d := 79) (q := .u8) (x := IntKind.wrap .u8 (KK / 16777216)) (y := (KK / 16777216) % 256) (wrap8m _) (by kernel_rfl) ?_
            refine SL.buildSliceM (d := 80) (t := 46) (e := 5) (len := 4) (size := 1) (z := .int .u8 0) (ps := [(0, .int .u8 (KK % 256)), (1, .int .u8 ((KK / 256) % 256)), (2, .int .u8 ((KK / 65536) % 256)), (3, .int .u8 ((KK / 16777216) % 256))]) (cs := #[.int .u8 (KK % 256), .int .u8 ((KK / 256) % 256), .int .u8 ((KK / 65536) % 256), .int .u8 ((KK / 16777216) % 256)]) M72 (by kernel_rfl) Try.underlying46 (by kernel_rfl) rfl rfl (by kernel_rfl) ?_
            intro g75 w76 hb77 ⟨bg75, lg75⟩ M78
            refine SL.appendM (d := 81) (ts := [46, 46]) (ty := 46) (vs := [.slice a69 (3 + xn.size) c70, .slice (some ⟨g75, 0, none⟩) 4 4]) (k' := (3 + xn.size) + 4) (L' := fun a79 c80 => [bx g75 #[.int .u8 (KK % 256), .int .u8 ((KK / 256) % 256), .int .u8 ((KK / 65536) % 256), .int .u8 ((KK / 16777216) % 256)] 5, rw' a79 ((3 + xn.size) + 4) c80 5 1 ((([83, 49] ++ nameB xn).map (Value.int .u8)) ++ [.int .u8 (KK % 256), .int .u8 ((KK / 256) % 256), .int .u8 ((KK / 65536) % 256), .int .u8 ((KK / 16777216) % 256)]), bx g52 #[.slice (some ⟨rb, ro, none⟩) nn rc, .slice a45 (((restF (⟨xn, ⟨xa1, xc1, xl1⟩, ⟨xa2, xc2, xl2⟩, ⟨xa3, xc3, xl3⟩⟩ : Fc).d).length) + ml.length) c46] 46, rw' a45 (((restF (⟨xn, ⟨xa1, xc1, xl1⟩, ⟨xa2, xc2, xl2⟩, ⟨xa3, xc3, xl3⟩⟩ : Fc).d).length) + ml.length) c46 5 1 (((restF (⟨xn, ⟨xa1, xc1, xl1⟩, ⟨xa2, xc2, xl2⟩, ⟨xa3, xc3, xl3⟩⟩ : Fc).d).map (Value.int .u8)) ++ (ml.map (Value.int .u8)))]) (by kernel_rfl) (Mem.append (m := 4) (news := [.int .u8 (KK % 256), .int .u8 ((KK / 256) % 256), .int .u8 ((KK / 65536) % 256), .int .u8 ((KK / 16777216) % 256)]) M78 1 rfl (ET.of Try.underlying46 (by kernel_rfl) (by decide) (by decide) : ET Try.prog 46 5 (.int .u8 0) 1 1) (rd_box M78 0 rfl (by kernel_rfl) rfl) rfl (by intro u hu; simp only [List.mem_cons, List.not_mem_nil, or_false] at hu; rcases hu with rfl | rfl | rfl | rfl <;> rfl) (by omega) (by omega) (by omega)) ?_
            intro a79 c80 w81 M82 hk83
            refine SL.run (d := 13) (v := .slice a79 ((3 + xn.size) + 4) c80) (by kernel_rfl) ?_
            refine SL.nil ?_
            refine SC.next ?_
            refine SC.seq (by kernel_rfl) ?_
            refine SC.region [0, 1, 2, 3, 4, 5, 6, 7, 8, 9, 10, 11, 12, 13, 14] (by kernel_rfl) (by kernel_rfl) ?_
            refine SL.run (d := 83) (v := .slice a79 ((3 + xn.size) + 4) c80) (by kernel_rfl) ?_
            refine SL.run (d := 84) (v := .slice (some ⟨g52, 0, none⟩) 2 2) (by kernel_rfl) ?_
            refine SL.run (d := 85) (v := .int .i64 0) (by kernel_rfl) ?_
            refine SL.index (d := 86) (t := 58) (e := 46) (b := g52) (o := 0) (len := 2) (cap := 2) (sz := 1) (k := .i64) (m := 0) 0 (by kernel_rfl) Try.underlying58 (by kernel_rfl) rfl (by omega) ?_
            refine SL.load (d := 87) (t := 46) (a := .pointer (some ⟨g52, 0, none⟩)) (v := .slice (some ⟨rb, ro, none⟩) nn rc) (by kernel_rfl) (M82.ldCell 2 rfl (j := 0) (v := .slice (some ⟨rb, ro, none⟩) nn rc) rfl Try.underlying46 rfl) ?_
            refine SL.appendM (d := 88) (ts := [46, 46]) (ty := 46) (vs := [.slice a79 ((3 + xn.size) + 4) c80, .slice (some ⟨rb, ro, none⟩) nn rc]) (k' := ((3 + xn.size) + 4) + nn) (L' := fun a84 c85 => [bx g75 #[.int .u8 (KK % 256), .int .u8 ((KK / 256) % 256), .int .u8 ((KK / 65536) % 256), .int .u8 ((KK / 16777216) % 256)] 5, rw' a84 (((3 + xn.size) + 4) + nn) c85 5 1 (((([83, 49] ++ nameB xn).map (Value.int .u8)) ++ [.int .u8 (KK % 256), .int .u8 ((KK / 256) % 256), .int .u8 ((KK / 65536) % 256), .int .u8 ((KK / 16777216) % 256)]) ++ (((restF (⟨xn, ⟨xa1, xc1, xl1⟩, ⟨xa2, xc2, xl2⟩, ⟨xa3, xc3, xl3⟩⟩ : Fc).d).take nn).map (Value.int .u8))), bx g52 #[.slice (some ⟨rb, ro, none⟩) nn rc, .slice a45 (((restF (⟨xn, ⟨xa1, xc1, xl1⟩, ⟨xa2, xc2, xl2⟩, ⟨xa3, xc3, xl3⟩⟩ : Fc).d).length) + ml.length) c46] 46, rw' a45 (((restF (⟨xn, ⟨xa1, xc1, xl1⟩, ⟨xa2, xc2, xl2⟩, ⟨xa3, xc3, xl3⟩⟩ : Fc).d).length) + ml.length) c46 5 1 (((restF (⟨xn, ⟨xa1, xc1, xl1⟩, ⟨xa2, xc2, xl2⟩, ⟨xa3, xc3, xl3⟩⟩ : Fc).d).map (Value.int .u8)) ++ (ml.map (Value.int .u8)))]) (by kernel_rfl) (Mem.append (m := nn) (news := (((restF (⟨xn, ⟨xa1, xc1, xl1⟩, ⟨xa2, xc2, xl2⟩, ⟨xa3, xc3, xl3⟩⟩ : Fc).d).take nn).map (Value.int .u8))) M82 1 rfl (ET.of Try.underlying46 (by kernel_rfl) (by decide) (by decide) : ET Try.prog 46 5 (.int .u8 0) 1 1) (by have h := ((hR.below M82.bel (Nat.le_refl _)).take nn (by omega)).1.row; rw [htl] at h; exact h) (by rw [List.length_map, Nat.mul_one]; exact htl) (fun u hu => by obtain ⟨z, _, rfl⟩ := List.mem_map.1 hu; rfl) (by omega) (by omega) (by omega)) ?_
            intro a84 c85 w86 M87 hk88
            have ex : ((([83, 49] ++ nameB xn).map (Value.int .u8)) ++ [.int .u8 (KK % 256), .int .u8 ((KK / 256) % 256), .int .u8 ((KK / 65536) % 256), .int .u8 ((KK / 16777216) % 256)]) ++ (((restF (⟨xn, ⟨xa1, xc1, xl1⟩, ⟨xa2, xc2, xl2⟩, ⟨xa3, xc3, xl3⟩⟩ : Fc).d).take nn).map (Value.int .u8)) = (withKey (⟨xn, ⟨xa1, xc1, xl1⟩, ⟨xa2, xc2, xl2⟩, ⟨xa3, xc3, xl3⟩⟩ : Fc).d ((restF (⟨xn, ⟨xa1, xc1, xl1⟩, ⟨xa2, xc2, xl2⟩, ⟨xa3, xc3, xl3⟩⟩ : Fc).d).take nn)).map (Value.int .u8) := by unfold withKey wordB; rw [hKK]; simp only [List.map_append, List.append_assoc, List.nil_append, List.map_cons, List.map_nil, List.cons_append]; rfl
            have hof0 := own_flat (M87.get 1 rfl : World.ownsRow _ _ _ _ _ _ _)
            have hlc := (own_cap (M87.get 1 rfl : World.ownsRow _ _ _ _ _ _ _)).2.2
            rw [ex, List.length_map, Nat.mul_one] at hlc
            have hrk : RdI .u8 w86 a84 c85 (withKey (⟨xn, ⟨xa1, xc1, xl1⟩, ⟨xa2, xc2, xl2⟩, ⟨xa3, xc3, xl3⟩⟩ : Fc).d ((restF (⟨xn, ⟨xa1, xc1, xl1⟩, ⟨xa2, xc2, xl2⟩, ⟨xa3, xc3, xl3⟩⟩ : Fc).d).take nn)) := ⟨by have := M87.rd 1 rfl; rw [ex] at this; rw [hlc]; exact this, fun z hz => ?_⟩
            rotate_left
            · unfold withKey at hz; rw [← List.append_assoc] at hz; rcases List.mem_append.1 hz with h | h; exact bd_u8' (headB_byte xn z h); rcases List.mem_append.1 h with h | h; (unfold wordB at h; simp only [List.mem_cons, List.not_mem_nil, or_false] at h; rcases h with rfl | rfl | rfl | rfl <;> exact bd_u8' (isb _)); exact hk0.1.bd z h
            refine SL.call (d := 89) (f := 17) (vs := [.slice a84 (((3 + xn.size) + 4) + nn) c85]) (by kernel_rfl) (by kernel_rfl) (by have := of8_walk a84 c85 _ w86 hrk (by omega) hof0; rw [hlc] at this; exact this) ?_
            rintro e w89 ⟨hra, hb90⟩
            have M91 := M87.call hb90
            have hof := cut_none (FIn.of hx hmy) hbR hnl
            rcases hra with ⟨_, rfl⟩ | ⟨y, kk, h1, _⟩
            rotate_left
            · rw [hof] at h1; cases h1
            refine ⟨_, rfl, ?_⟩
            refine SL.run (d := 82) (v := .tuple #[.agg #[.string ⟨#[]⟩, .slice none 0 0, .slice none 0 0, .slice none 0 0], .int .u32 0, .int .i64 4]) (by kernel_rfl) ?_
            refine SL.run (d := 90) (v := .agg #[.string ⟨#[]⟩, .slice none 0 0, .slice none 0 0, .slice none 0 0]) (by kernel_rfl) ?_
            refine SL.run (d := 91) (v := .int .u32 0) (by kernel_rfl) ?_
            refine SL.run (d := 92) (v := .int .i64 4) (by kernel_rfl) ?_
            refine SL.allocM (d := 14) (t := 26) (z := .agg #[.string ⟨#[]⟩, .slice none 0 0, .slice none 0 0, .slice none 0 0]) (cs := #[.string ⟨#[]⟩, .slice none 0 0, .slice none 0 0, .slice none 0 0]) M91 (by kernel_rfl) (by kernel_rfl) rfl ?_
            intro g92 w93 hb94 ⟨bg92, lg92⟩ M95
            refine SL.storeM (t := 26) (a := .pointer (some ⟨g92, 0, none⟩)) (v := .agg #[.string ⟨#[]⟩, .slice none 0 0, .slice none 0 0, .slice none 0 0]) (L' := [bx g92 #[.string ⟨#[]⟩, .slice none 0 0, .slice none 0 0, .slice none 0 0] 26, bx g75 #[.int .u8 (KK % 256), .int .u8 ((KK / 256) % 256), .int .u8 ((KK / 65536) % 256), .int .u8 ((KK / 16777216) % 256)] 5, rw' a84 (((3 + xn.size) + 4) + nn) c85 5 1 (((([83, 49] ++ nameB xn).map (Value.int .u8)) ++ [.int .u8 (KK % 256), .int .u8 ((KK / 256) % 256), .int .u8 ((KK / 65536) % 256), .int .u8 ((KK / 16777216) % 256)]) ++ (((restF (⟨xn, ⟨xa1, xc1, xl1⟩, ⟨xa2, xc2, xl2⟩, ⟨xa3, xc3, xl3⟩⟩ : Fc).d).take nn).map (Value.int .u8))), bx g52 #[.slice (some ⟨rb, ro, none⟩) nn rc, .slice a45 (((restF (⟨xn, ⟨xa1, xc1, xl1⟩, ⟨xa2, xc2, xl2⟩, ⟨xa3, xc3, xl3⟩⟩ : Fc).d).length) + ml.length) c46] 46, rw' a45 (((restF (⟨xn, ⟨xa1, xc1, xl1⟩, ⟨xa2, xc2, xl2⟩, ⟨xa3, xc3, xl3⟩⟩ : Fc).d).length) + ml.length) c46 5 1 (((restF (⟨xn, ⟨xa1, xc1, xl1⟩, ⟨xa2, xc2, xl2⟩, ⟨xa3, xc3, xl3⟩⟩ : Fc).d).map (Value.int .u8)) ++ (ml.map (Value.int .u8)))]) (by kernel_rfl) (M95.stBox 0 rfl rfl (by kernel_rfl) rfl) ?_
            intro w96 M97 hk98 shk98
            refine SL.run (d := 15) (v := .int .u32 0) (by kernel_rfl) ?_
            refine SL.run (d := 16) (v := .int .i64 4) (by kernel_rfl) ?_
            refine SL.nil ?_
            refine SC.next ?_
            refine SC.seq (by kernel_rfl) ?_
            refine SC.region [0, 1, 2, 3, 4, 5, 6, 7, 8, 9] (by kernel_rfl) (by kernel_rfl) ?_
            refine SL.run (d := 93) (v := .int .i64 4) (by kernel_rfl) ?_
            refine SL.run (d := 94) (v := .bool false) (by kernel_rfl) ?_
            refine SL.run (d := 95) (v := .int .i64 0) (by kernel_rfl) ?_
            refine SL.run (d := 96) (v := .bool false) (by kernel_rfl) ?_
            refine SL.run (d := 97) (v := .bool false) (by kernel_rfl) ?_
            refine SL.offs [5, 6, 7] (is := [8, 9]) rfl (by kernel_rfl) ?_
            refine SL.pick (d := 101) (v := .bool false) (by kernel_rfl) ?_
            refine SL.run (d := 102) (v := .bool false) (by kernel_rfl) ?_
            refine SL.nil ?_
            refine SC.next ?_
            refine SC.no (by kernel_rfl) ?_
            refine SC.skip (by kernel_rfl) ?_
            refine SQ.blockNormal ?_
            refine SC.next ?_
            refine SC.region [0, 1, 2] (by kernel_rfl) (by kernel_rfl) ?_
            refine SL.run (d := 60) (v := .int .i64 0) (by kernel_rfl) ?_
            refine SL.run (d := 61) (v := .int .i64 1) (by kernel_rfl) ?_
            refine SL.run (d := 11) (v := .int .i64 1) (by kernel_rfl) ?_
            refine SL.nil ?_
            have M99 := M97.keep [3, 4] rfl (L' := [bx g52 #[.slice (some ⟨rb, ro, none⟩) nn rc, .slice a45 (((restF (⟨xn, ⟨xa1, xc1, xl1⟩, ⟨xa2, xc2, xl2⟩, ⟨xa3, xc3, xl3⟩⟩ : Fc).d).length) + ml.length) c46] 46, rw' a45 (((restF (⟨xn, ⟨xa1, xc1, xl1⟩, ⟨xa2, xc2, xl2⟩, ⟨xa3, xc3, xl3⟩⟩ : Fc).d).length) + ml.length) c46 5 1 (((restF (⟨xn, ⟨xa1, xc1, xl1⟩, ⟨xa2, xc2, xl2⟩, ⟨xa3, xc3, xl3⟩⟩ : Fc).d).map (Value.int .u8)) ++ (ml.map (Value.int .u8)))]) rfl
            exact ag60 1 (by kernel_rfl) ⟨M99, (by omega)⟩ (by omega)
          · skip
            refine SL.run (d := 59) (v := .bool true) (by kernel_rfl) ?_
            refine SL.nil ?_
            refine SC.next ?_
            refine SC.yes (by kernel_rfl) ?_
            refine SC.skip (by kernel_rfl) ?_
            refine SC.next ?_
            refine SC.seq (by kernel_rfl) ?_
            refine SC.block (i := 1) (by kernel_rfl) ?_
            refine SC.seq (by kernel_rfl) ?_
            refine SC.region [0, 1, 2, 3, 4, 5] (by kernel_rfl) (by kernel_rfl) ?_
            refine SL.run (d := 62) (v := .slice (some ⟨g52, 0, none⟩) 2 2) (by kernel_rfl) ?_
            refine SL.run (d := 63) (v := .int .i64 1) (by kernel_rfl) ?_
            refine SL.index (d := 64) (t := 58) (e := 46) (b := g52) (o := 0) (len := 2) (cap := 2) (sz := 1) (k := .i64) (m := 1) 1 (by kernel_rfl) Try.underlying58 (by kernel_rfl) rfl (by omega) ?_
            refine SL.load (d := 65) (t := 46) (a := .pointer (some ⟨g52, 1, none⟩)) (v := .slice a45 (((restF (⟨xn, ⟨xa1, xc1, xl1⟩, ⟨xa2, xc2, xl2⟩, ⟨xa3, xc3, xl3⟩⟩ : Fc).d).length) + ml.length) c46) (by kernel_rfl) (M64.ldCell 0 rfl (j := 1) (v := .slice a45 (((restF (⟨xn, ⟨xa1, xc1, xl1⟩, ⟨xa2, xc2, xl2⟩, ⟨xa3, xc3, xl3⟩⟩ : Fc).d).length) + ml.length) c46) rfl Try.underlying46 rfl) ?_
            have hk0 : RdI .u8 w63 a45 c46 ((restF (⟨xn, ⟨xa1, xc1, xl1⟩, ⟨xa2, xc2, xl2⟩, ⟨xa3, xc3, xl3⟩⟩ : Fc).d) ++ ml) ∧ ((restF (⟨xn, ⟨xa1, xc1, xl1⟩, ⟨xa2, xc2, xl2⟩, ⟨xa3, xc3, xl3⟩⟩ : Fc).d) ++ ml).length = ((restF (⟨xn, ⟨xa1, xc1, xl1⟩, ⟨xa2, xc2, xl2⟩, ⟨xa3, xc3, xl3⟩⟩ : Fc).d).length) + ml.length := ⟨⟨by rw [List.length_append, List.map_append]; exact M64.rd 1 rfl, fun z hz => (List.mem_append.1 hz).elim (hR.bd z) (hm.bd z)⟩, by rw [List.length_append]⟩
            obtain ⟨KK, hKK⟩ : ∃ k, Key.of ((restF (⟨xn, ⟨xa1, xc1, xl1⟩, ⟨xa2, xc2, xl2⟩, ⟨xa3, xc3, xl3⟩⟩ : Fc).d) ++ ml) = k := ⟨_, rfl⟩
            have hKb : 0 ≤ KK ∧ KK < 4294967296 := by rw [← hKK]; exact Key.of_bd _
            refine SL.call (d := 66) (f := 21) (vs := [.slice a45 (((restF (⟨xn, ⟨xa1, xc1, xl1⟩, ⟨xa2, xc2, xl2⟩, ⟨xa3, xc3, xl3⟩⟩ : Fc).d).length) + ml.length) c46]) (by kernel_rfl) (by kernel_rfl) (by have := fkey_walk _ _ _ w63 hk0.1; rw [hk0.2, hKK] at this; exact this) ?_
            rintro e _ ⟨rfl, rfl⟩
            refine ⟨_, rfl, ?_⟩
            refine SL.run (d := 12) (v := .int .u32 KK) (by kernel_rfl) ?_
            refine SL.nil ?_
            refine SC.next ?_
            refine SC.seq (by kernel_rfl) ?_
            refine SC.region [0, 1, 2, 3, 4, 5, 6, 7, 8, 9, 10, 11, 12, 13, 14, 15] (by kernel_rfl) (by kernel_rfl) ?_
            refine SL.run (d := 67) (v := .slice a23 (3 + xn.size) c24) (by kernel_rfl) ?_
            refine SL.appendM (d := 68) (ts := [46, 46]) (ty := 46) (vs := [.slice none 0 0, .slice a23 (3 + xn.size) c24]) (k' := 3 + xn.size) (L' := fun a103 c104 => [rw' a103 (3 + xn.size) c104 5 1 (([83, 49] ++ nameB xn).map (Value.int .u8)), bx g52 #[.slice (some ⟨rb, ro, none⟩) nn rc, .slice a45 (((restF (⟨xn, ⟨xa1, xc1, xl1⟩, ⟨xa2, xc2, xl2⟩, ⟨xa3, xc3, xl3⟩⟩ : Fc).d).length) + ml.length) c46] 46, rw' a45 (((restF (⟨xn, ⟨xa1, xc1, xl1⟩, ⟨xa2, xc2, xl2⟩, ⟨xa3, xc3, xl3⟩⟩ : Fc).d).length) + ml.length) c46 5 1 (((restF (⟨xn, ⟨xa1, xc1, xl1⟩, ⟨xa2, xc2, xl2⟩, ⟨xa3, xc3, xl3⟩⟩ : Fc).d).map (Value.int .u8)) ++ (ml.map (Value.int .u8)))]) (by kernel_rfl) (Mem.append (m := 3 + xn.size) (news := (([83, 49] ++ nameB xn).map (Value.int .u8))) (Mem.addNil (e := 5) (size := 1) M64) 0 rfl (ET.of Try.underlying46 (by kernel_rfl) (by decide) (by decide) : ET Try.prog 46 5 (.int .u8 0) 1 1) (by have := (hH.below M64.bel (Nat.le_refl _)).row; rw [hHl] at this; exact this) (by rw [List.length_map, Nat.mul_one]; exact hHl) (fun u hu => by obtain ⟨z, _, rfl⟩ := List.mem_map.1 hu; rfl) (by omega) (by omega) (by omega)) ?_
            intro a103 c104 w105 M106 hk107
            have hb108 : Below _ _ w105 := hk107.toBelow (fun i _ e => (by cases e))
            refine SL.run (d := 69) (v := .int .u32 KK) (by kernel_rfl) ?_
            refine SL.int (d := 70) (q := .u8) (x := IntKind.wrap .u8 KK) (y := KK % 256) (wrap8m _) (by kernel_rfl) ?_
            refine SL.run (d := 71) (v := .int .u32 KK) (by kernel_rfl) ?_
            refine SL.int (d := 72) (q := .u32) (x := Int.fdiv KK (2 ^ 8)) (y := KK / 256) (fdiv_pow 256 (by decide) (by decide)) (by kernel_rfl) ?_
            refine SL.int (d := 73) (q := .u8) (x := IntKind.wrap .u8 (KK / 256)) (y := (KK / 256) % 256) (wrap8m _) (by kernel_rfl) ?_
            refine SL.run (d := 74) (v := .int .u32 KK) (by kernel_rfl) ?_
            refine SL.int (d := 75) (q := .u32) (x := Int.fdiv KK (2 ^ 16)) (y := KK / 65536) (fdiv_pow 65536 (by decide) (by decide)) (by kernel_rfl) ?_
            refine SL.int (d := 76) (q := .u8) (x := IntKind.wrap .u8 (KK / 65536)) (y := (KK / 65536) % 256) (wrap8m _) (by kernel_rfl) ?_
            refine SL.run (d := 77) (v := .int .u32 KK) (by kernel_rfl) ?_
            refine SL.int (d := 78) (q := .u32) (x := Int.fdiv KK (2 ^ 24)) (y := KK / 16777216) (fdiv_pow 16777216 (by decide) (by decide)) (by kernel_rfl) ?_
            refine SL.int (d := 79) (q := .u8) (x := IntKind.wrap .u8 (KK / 16777216)) (y := (KK / 16777216) % 256) (wrap8m _) (by kernel_rfl) ?_
            refine SL.buildSliceM (d := 80) (t := 46) (e := 5) (len := 4) (size := 1) (z := .int .u8 0) (ps := [(0, .int .u8 (KK % 256)), (1, .int .u8 ((KK / 256) % 256)), (2, .int .u8 ((KK / 65536) % 256)), (3, .int .u8 ((KK / 16777216) % 256))]) (cs := #[.int .u8 (KK % 256), .int .u8 ((KK / 256) % 256), .int .u8 ((KK / 65536) % 256), .int .u8 ((KK / 16777216) % 256)]) M106 (by kernel_rfl) Try.underlying46 (by kernel_rfl) rfl rfl (by kernel_rfl) ?_
            intro g109 w110 hb111 ⟨bg109, lg109⟩ M112
            refine SL.appendM (d := 81) (ts := [46, 46]) (ty := 46) (vs := [.slice a103 (3 + xn.size) c104, .slice (some ⟨g109, 0, none⟩) 4 4]) (k' := (3 + xn.size) + 4) (L' := fun a113 c114 => [bx g109 #[.int .u8 (KK % 256), .int .u8 ((KK / 256) % 256), .int .u8 ((KK / 65536) % 256), .int .u8 ((KK / 16777216) % 256)] 5, rw' a113 ((3 + xn.size) + 4) c114 5 1 ((([83, 49] ++ nameB xn).map (Value.int .u8)) ++ [.int .u8 (KK % 256), .int .u8 ((KK / 256) % 256), .int .u8 ((KK / 65536) % 256), .int .u8 ((KK / 16777216) % 256)]), bx g52 #[.slice (some ⟨rb, ro, none⟩) nn rc, .slice a45 (((restF (⟨xn, ⟨xa1, xc1, xl1⟩, ⟨xa2, xc2, xl2⟩, ⟨xa3, xc3, xl3⟩⟩ : Fc).d).length) + ml.length) c46] 46, rw' a45 (((restF (⟨xn, ⟨xa1, xc1, xl1⟩, ⟨xa2, xc2, xl2⟩, ⟨xa3, xc3, xl3⟩⟩ : Fc).d).length) + ml.length) c46 5 1 (((restF (⟨xn, ⟨xa1, xc1, xl1⟩, ⟨xa2, xc2, xl2⟩, ⟨xa3, xc3, xl3⟩⟩ : Fc).d).map (Value.int .u8)) ++ (ml.map (Value.int .u8)))]) (by kernel_rfl) (Mem.append (m := 4) (news := [.int .u8 (KK % 256), .int .u8 ((KK / 256) % 256), .int .u8 ((KK / 65536) % 256), .int .u8 ((KK / 16777216) % 256)]) M112 1 rfl (ET.of Try.underlying46 (by kernel_rfl) (by decide) (by decide) : ET Try.prog 46 5 (.int .u8 0) 1 1) (rd_box M112 0 rfl (by kernel_rfl) rfl) rfl (by intro u hu; simp only [List.mem_cons, List.not_mem_nil, or_false] at hu; rcases hu with rfl | rfl | rfl | rfl <;> rfl) (by omega) (by omega) (by omega)) ?_
            intro a113 c114 w115 M116 hk117
            refine SL.run (d := 13) (v := .slice a113 ((3 + xn.size) + 4) c114) (by kernel_rfl) ?_
            refine SL.nil ?_
            refine SC.next ?_
            refine SC.seq (by kernel_rfl) ?_
            refine SC.region [0, 1, 2, 3, 4, 5, 6, 7, 8, 9, 10, 11, 12, 13, 14] (by kernel_rfl) (by kernel_rfl) ?_
            refine SL.run (d := 83) (v := .slice a113 ((3 + xn.size) + 4) c114) (by kernel_rfl) ?_
            refine SL.run (d := 84) (v := .slice (some ⟨g52, 0, none⟩) 2 2) (by kernel_rfl) ?_
            refine SL.run (d := 85) (v := .int .i64 1) (by kernel_rfl) ?_
            refine SL.index (d := 86) (t := 58) (e := 46) (b := g52) (o := 0) (len := 2) (cap := 2) (sz := 1) (k := .i64) (m := 1) 1 (by kernel_rfl) Try.underlying58 (by kernel_rfl) rfl (by omega) ?_
            refine SL.load (d := 87) (t := 46) (a := .pointer (some ⟨g52, 1, none⟩)) (v := .slice a45 (((restF (⟨xn, ⟨xa1, xc1, xl1⟩, ⟨xa2, xc2, xl2⟩, ⟨xa3, xc3, xl3⟩⟩ : Fc).d).length) + ml.length) c46) (by kernel_rfl) (M116.ldCell 2 rfl (j := 1) (v := .slice a45 (((restF (⟨xn, ⟨xa1, xc1, xl1⟩, ⟨xa2, xc2, xl2⟩, ⟨xa3, xc3, xl3⟩⟩ : Fc).d).length) + ml.length) c46) rfl Try.underlying46 rfl) ?_
            refine SL.appendM (d := 88) (ts := [46, 46]) (ty := 46) (vs := [.slice a113 ((3 + xn.size) + 4) c114, .slice a45 (((restF (⟨xn, ⟨xa1, xc1, xl1⟩, ⟨xa2, xc2, xl2⟩, ⟨xa3, xc3, xl3⟩⟩ : Fc).d).length) + ml.length) c46]) (k' := ((3 + xn.size) + 4) + (((restF (⟨xn, ⟨xa1, xc1, xl1⟩, ⟨xa2, xc2, xl2⟩, ⟨xa3, xc3, xl3⟩⟩ : Fc).d).length) + ml.length)) (L' := fun a118 c119 => [bx g109 #[.int .u8 (KK % 256), .int .u8 ((KK / 256) % 256), .int .u8 ((KK / 65536) % 256), .int .u8 ((KK / 16777216) % 256)] 5, rw' a118 (((3 + xn.size) + 4) + (((restF (⟨xn, ⟨xa1, xc1, xl1⟩, ⟨xa2, xc2, xl2⟩, ⟨xa3, xc3, xl3⟩⟩ : Fc).d).length) + ml.length)) c119 5 1 (((([83, 49] ++ nameB xn).map (Value.int .u8)) ++ [.int .u8 (KK % 256), .int .u8 ((KK / 256) % 256), .int .u8 ((KK / 65536) % 256), .int .u8 ((KK / 16777216) % 256)]) ++ (((restF (⟨xn, ⟨xa1, xc1, xl1⟩, ⟨xa2, xc2, xl2⟩, ⟨xa3, xc3, xl3⟩⟩ : Fc).d).map (Value.int .u8)) ++ (ml.map (Value.int .u8)))), bx g52 #[.slice (some ⟨rb, ro, none⟩) nn rc, .slice a45 (((restF (⟨xn, ⟨xa1, xc1, xl1⟩, ⟨xa2, xc2, xl2⟩, ⟨xa3, xc3, xl3⟩⟩ : Fc).d).length) + ml.length) c46] 46, rw' a45 (((restF (⟨xn, ⟨xa1, xc1, xl1⟩, ⟨xa2, xc2, xl2⟩, ⟨xa3, xc3, xl3⟩⟩ : Fc).d).length) + ml.length) c46 5 1 (((restF (⟨xn, ⟨xa1, xc1, xl1⟩, ⟨xa2, xc2, xl2⟩, ⟨xa3, xc3, xl3⟩⟩ : Fc).d).map (Value.int .u8)) ++ (ml.map (Value.int .u8)))]) (by kernel_rfl) (Mem.append (m := ((restF (⟨xn, ⟨xa1, xc1, xl1⟩, ⟨xa2, xc2, xl2⟩, ⟨xa3, xc3, xl3⟩⟩ : Fc).d).length) + ml.length) (news := ((restF (⟨xn, ⟨xa1, xc1, xl1⟩, ⟨xa2, xc2, xl2⟩, ⟨xa3, xc3, xl3⟩⟩ : Fc).d).map (Value.int .u8)) ++ (ml.map (Value.int .u8))) M116 1 rfl (ET.of Try.underlying46 (by kernel_rfl) (by decide) (by decide) : ET Try.prog 46 5 (.int .u8 0) 1 1) (M116.rd 3 rfl) (own_cap (M116.get 3 rfl : World.ownsRow _ _ _ _ _ _ _)).2.2 (by simp only [← List.map_append]; exact (fun u hu => by obtain ⟨z, _, rfl⟩ := List.mem_map.1 hu; rfl)) (by omega) (by omega) (by omega)) ?_
            intro a118 c119 w120 M121 hk122
            have ex : ((([83, 49] ++ nameB xn).map (Value.int .u8)) ++ [.int .u8 (KK % 256), .int .u8 ((KK / 256) % 256), .int .u8 ((KK / 65536) % 256), .int .u8 ((KK / 16777216) % 256)]) ++ (((restF (⟨xn, ⟨xa1, xc1, xl1⟩, ⟨xa2, xc2, xl2⟩, ⟨xa3, xc3, xl3⟩⟩ : Fc).d).map (Value.int .u8)) ++ (ml.map (Value.int .u8))) = (withKey (⟨xn, ⟨xa1, xc1, xl1⟩, ⟨xa2, xc2, xl2⟩, ⟨xa3, xc3, xl3⟩⟩ : Fc).d ((restF (⟨xn, ⟨xa1, xc1, xl1⟩, ⟨xa2, xc2, xl2⟩, ⟨xa3, xc3, xl3⟩⟩ : Fc).d) ++ ml)).map (Value.int .u8) := by unfold withKey wordB; rw [hKK]; simp only [List.map_append, List.append_assoc, List.nil_append, List.map_cons, List.map_nil, List.cons_append]; rfl
            have hof0 := own_flat (M121.get 1 rfl : World.ownsRow _ _ _ _ _ _ _)
            have hlc := (own_cap (M121.get 1 rfl : World.ownsRow _ _ _ _ _ _ _)).2.2
            rw [ex, List.length_map, Nat.mul_one] at hlc
            have hrk : RdI .u8 w120 a118 c119 (withKey (⟨xn, ⟨xa1, xc1, xl1⟩, ⟨xa2, xc2, xl2⟩, ⟨xa3, xc3, xl3⟩⟩ : Fc).d ((restF (⟨xn, ⟨xa1, xc1, xl1⟩, ⟨xa2, xc2, xl2⟩, ⟨xa3, xc3, xl3⟩⟩ : Fc).d) ++ ml)) := ⟨by have := M121.rd 1 rfl; rw [ex] at this; rw [hlc]; exact this, fun z hz => ?_⟩
            rotate_left
            · unfold withKey at hz; rw [← List.append_assoc] at hz; rcases List.mem_append.1 hz with h | h; exact bd_u8' (headB_byte xn z h); rcases List.mem_append.1 h with h | h; (unfold wordB at h; simp only [List.mem_cons, List.not_mem_nil, or_false] at h; rcases h with rfl | rfl | rfl | rfl <;> exact bd_u8' (isb _)); exact hk0.1.bd z h
            refine SL.call (d := 89) (f := 17) (vs := [.slice a118 (((3 + xn.size) + 4) + (((restF (⟨xn, ⟨xa1, xc1, xl1⟩, ⟨xa2, xc2, xl2⟩, ⟨xa3, xc3, xl3⟩⟩ : Fc).d).length) + ml.length)) c119]) (by kernel_rfl) (by kernel_rfl) (by have := of8_walk a118 c119 _ w120 hrk (by omega) hof0; rw [hlc] at this; exact this) ?_
            rintro e w123 ⟨hra, hb124⟩
            have M125 := M121.call hb124
            by_cases hm0 : ml = []
            · skip
              have hof := more_some (FIn.of hx hmy) hmy
              rw [show withKey (⟨xn, ⟨xa1, xc1, xl1⟩, ⟨xa2, xc2, xl2⟩, ⟨xa3, xc3, xl3⟩⟩ : Fc).d (restF (⟨xn, ⟨xa1, xc1, xl1⟩, ⟨xa2, xc2, xl2⟩, ⟨xa3, xc3, xl3⟩⟩ : Fc).d) = withKey (⟨xn, ⟨xa1, xc1, xl1⟩, ⟨xa2, xc2, xl2⟩, ⟨xa3, xc3, xl3⟩⟩ : Fc).d ((restF (⟨xn, ⟨xa1, xc1, xl1⟩, ⟨xa2, xc2, xl2⟩, ⟨xa3, xc3, xl3⟩⟩ : Fc).d) ++ ml) by rw [hm0, List.append_nil]] at hof
              rcases hra with ⟨h, _⟩ | ⟨y, kk, h1, rfl, hy⟩
              · rw [hof] at h; cases h
              obtain ⟨yn, ⟨ya1, yc1, yl1⟩, ⟨ya2, yc2, yl2⟩, ⟨ya3, yc3, yl3⟩⟩ := y
              refine ⟨_, rfl, ?_⟩
              have km : decide (((ml.length : Nat) : Int) = (0 : Int)) = true := decide_eq_true (by rw [hm0]; rfl)
              refine SL.run (d := 82) (v := .tuple #[.agg #[.string yn, .slice ya1 yl1.length yc1, .slice ya2 yl2.length yc2, .slice ya3 yl3.length yc3], .int .u32 kk, .int .i64 0]) (by kernel_rfl) ?_
              refine SL.run (d := 90) (v := .agg #[.string yn, .slice ya1 yl1.length yc1, .slice ya2 yl2.length yc2, .slice ya3 yl3.length yc3]) (by kernel_rfl) ?_
              refine SL.run (d := 91) (v := .int .u32 kk) (by kernel_rfl) ?_
              refine SL.run (d := 92) (v := .int .i64 0) (by kernel_rfl) ?_
              refine SL.allocM (d := 14) (t := 26) (z := .agg #[.string ⟨#[]⟩, .slice none 0 0, .slice none 0 0, .slice none 0 0]) (cs := #[.string ⟨#[]⟩, .slice none 0 0, .slice none 0 0, .slice none 0 0]) M125 (by kernel_rfl) (by kernel_rfl) rfl ?_
              intro g126 w127 hb128 ⟨bg126, lg126⟩ M129
              refine SL.storeM (t := 26) (a := .pointer (some ⟨g126, 0, none⟩)) (v := .agg #[.string yn, .slice ya1 yl1.length yc1, .slice ya2 yl2.length yc2, .slice ya3 yl3.length yc3]) (L' := [bx g126 #[.string yn, .slice ya1 yl1.length yc1, .slice ya2 yl2.length yc2, .slice ya3 yl3.length yc3] 26, bx g109 #[.int .u8 (KK % 256), .int .u8 ((KK / 256) % 256), .int .u8 ((KK / 65536) % 256), .int .u8 ((KK / 16777216) % 256)] 5, rw' a118 (((3 + xn.size) + 4) + (((restF (⟨xn, ⟨xa1, xc1, xl1⟩, ⟨xa2, xc2, xl2⟩, ⟨xa3, xc3, xl3⟩⟩ : Fc).d).length) + ml.length)) c119 5 1 (((([83, 49] ++ nameB xn).map (Value.int .u8)) ++ [.int .u8 (KK % 256), .int .u8 ((KK / 256) % 256), .int .u8 ((KK / 65536) % 256), .int .u8 ((KK / 16777216) % 256)]) ++ (((restF (⟨xn, ⟨xa1, xc1, xl1⟩, ⟨xa2, xc2, xl2⟩, ⟨xa3, xc3, xl3⟩⟩ : Fc).d).map (Value.int .u8)) ++ (ml.map (Value.int .u8)))), bx g52 #[.slice (some ⟨rb, ro, none⟩) nn rc, .slice a45 (((restF (⟨xn, ⟨xa1, xc1, xl1⟩, ⟨xa2, xc2, xl2⟩, ⟨xa3, xc3, xl3⟩⟩ : Fc).d).length) + ml.length) c46] 46, rw' a45 (((restF (⟨xn, ⟨xa1, xc1, xl1⟩, ⟨xa2, xc2, xl2⟩, ⟨xa3, xc3, xl3⟩⟩ : Fc).d).length) + ml.length) c46 5 1 (((restF (⟨xn, ⟨xa1, xc1, xl1⟩, ⟨xa2, xc2, xl2⟩, ⟨xa3, xc3, xl3⟩⟩ : Fc).d).map (Value.int .u8)) ++ (ml.map (Value.int .u8)))]) (by kernel_rfl) (M129.stBox 0 rfl rfl (by kernel_rfl) rfl) ?_
              intro w130 M131 hk132 shk132
              refine SL.run (d := 15) (v := .int .u32 kk) (by kernel_rfl) ?_
              refine SL.run (d := 16) (v := .int .i64 0) (by kernel_rfl) ?_
              refine SL.nil ?_
              refine SC.next ?_
              refine SC.seq (by kernel_rfl) ?_
              refine SC.region [0, 1, 2, 3, 4, 5, 6, 7, 8, 9] (by kernel_rfl) (by kernel_rfl) ?_
              refine SL.run (d := 93) (v := .int .i64 0) (by kernel_rfl) ?_
              refine SL.run (d := 94) (v := .bool true) (by kernel_rfl) ?_
              refine SL.run (d := 95) (v := .int .i64 1) (by kernel_rfl) ?_
              refine SL.run (d := 96) (v := .bool true) (by kernel_rfl) ?_
              refine SL.run (d := 97) (v := .bool true) (by kernel_rfl) ?_
              refine SL.run (d := 98) (v := .slice ma ml.length mc) (by kernel_rfl) ?_
              refine SL.builtin (d := 99) (b := .len) (ts := [46]) (ty := 3) (vs := [.slice ma ml.length mc]) (v := .int .i64 ((ml.length : Nat) : Int)) (by kernel_rfl) (fun k => run_len Try.underlying46 rfl k) ?_
              refine SL.bool (d := 100) (x := (((ml.length : Nat) : Int) == (0 : Int))) (y := true) ((int_beq _ _).trans km) (by kernel_rfl) ?_
              refine SL.pick (d := 101) (v := .bool true) (by kernel_rfl) ?_
              refine SL.run (d := 102) (v := .bool false) (by kernel_rfl) ?_
              refine SL.nil ?_
              refine SC.next ?_
              refine SC.no (by kernel_rfl) ?_
              refine SC.skip (by kernel_rfl) ?_
              refine SQ.blockNormal ?_
              refine SC.next ?_
              refine SC.region [0, 1, 2] (by kernel_rfl) (by kernel_rfl) ?_
              refine SL.run (d := 60) (v := .int .i64 1) (by kernel_rfl) ?_
              refine SL.run (d := 61) (v := .int .i64 2) (by kernel_rfl) ?_
              refine SL.run (d := 11) (v := .int .i64 2) (by kernel_rfl) ?_
              refine SL.nil ?_
              have M133 := M131.keep [3, 4] rfl (L' := [bx g52 #[.slice (some ⟨rb, ro, none⟩) nn rc, .slice a45 (((restF (⟨xn, ⟨xa1, xc1, xl1⟩, ⟨xa2, xc2, xl2⟩, ⟨xa3, xc3, xl3⟩⟩ : Fc).d).length) + ml.length) c46] 46, rw' a45 (((restF (⟨xn, ⟨xa1, xc1, xl1⟩, ⟨xa2, xc2, xl2⟩, ⟨xa3, xc3, xl3⟩⟩ : Fc).d).length) + ml.length) c46 5 1 (((restF (⟨xn, ⟨xa1, xc1, xl1⟩, ⟨xa2, xc2, xl2⟩, ⟨xa3, xc3, xl3⟩⟩ : Fc).d).map (Value.int .u8)) ++ (ml.map (Value.int .u8)))]) rfl
              exact ag60 2 (by kernel_rfl) ⟨M133, (by omega)⟩ (by omega)
            · skip
              have km : decide (((ml.length : Nat) : Int) = (0 : Int)) = false := decide_eq_false (fun h => hm0 (List.length_eq_zero_iff.1 (by omega)))
              have hof := more_none (FIn.of hx hmy) hm0
              rcases hra with ⟨_, rfl⟩ | ⟨y, kk, h1, _⟩
              rotate_left
              · rw [hof] at h1; cases h1
              refine ⟨_, rfl, ?_⟩
              refine SL.run (d := 82) (v := .tuple #[.agg #[.string ⟨#[]⟩, .slice none 0 0, .slice none 0 0, .slice none 0 0], .int .u32 0, .int .i64 4]) (by kernel_rfl) ?_
              refine SL.run (d := 90) (v := .agg #[.string ⟨#[]⟩, .slice none 0 0, .slice none 0 0, .slice none 0 0]) (by kernel_rfl) ?_
              refine SL.run (d := 91) (v := .int .u32 0) (by kernel_rfl) ?_
              refine SL.run (d := 92) (v := .int .i64 4) (by kernel_rfl) ?_
              refine SL.allocM (d := 14) (t := 26) (z := .agg #[.string ⟨#[]⟩, .slice none 0 0, .slice none 0 0, .slice none 0 0]) (cs := #[.string ⟨#[]⟩, .slice none 0 0, .slice none 0 0, .slice none 0 0]) M125 (by kernel_rfl) (by kernel_rfl) rfl ?_
              intro g134 w135 hb136 ⟨bg134, lg134⟩ M137
              refine SL.storeM (t := 26) (a := .pointer (some ⟨g134, 0, none⟩)) (v := .agg #[.string ⟨#[]⟩, .slice none 0 0, .slice none 0 0, .slice none 0 0]) (L' := [bx g134 #[.string ⟨#[]⟩, .slice none 0 0, .slice none 0 0, .slice none 0 0] 26, bx g109 #[.int .u8 (KK % 256), .int .u8 ((KK / 256) % 256), .int .u8 ((KK / 65536) % 256), .int .u8 ((KK / 16777216) % 256)] 5, rw' a118 (((3 + xn.size) + 4) + (((restF (⟨xn, ⟨xa1, xc1, xl1⟩, ⟨xa2, xc2, xl2⟩, ⟨xa3, xc3, xl3⟩⟩ : Fc).d).length) + ml.length)) c119 5 1 (((([83, 49] ++ nameB xn).map (Value.int .u8)) ++ [.int .u8 (KK % 256), .int .u8 ((KK / 256) % 256), .int .u8 ((KK / 65536) % 256), .int .u8 ((KK / 16777216) % 256)]) ++ (((restF (⟨xn, ⟨xa1, xc1, xl1⟩, ⟨xa2, xc2, xl2⟩, ⟨xa3, xc3, xl3⟩⟩ : Fc).d).map (Value.int .u8)) ++ (ml.map (Value.int .u8)))), bx g52 #[.slice (some ⟨rb, ro, none⟩) nn rc, .slice a45 (((restF (⟨xn, ⟨xa1, xc1, xl1⟩, ⟨xa2, xc2, xl2⟩, ⟨xa3, xc3, xl3⟩⟩ : Fc).d).length) + ml.length) c46] 46, rw' a45 (((restF (⟨xn, ⟨xa1, xc1, xl1⟩, ⟨xa2, xc2, xl2⟩, ⟨xa3, xc3, xl3⟩⟩ : Fc).d).length) + ml.length) c46 5 1 (((restF (⟨xn, ⟨xa1, xc1, xl1⟩, ⟨xa2, xc2, xl2⟩, ⟨xa3, xc3, xl3⟩⟩ : Fc).d).map (Value.int .u8)) ++ (ml.map (Value.int .u8)))]) (by kernel_rfl) (M137.stBox 0 rfl rfl (by kernel_rfl) rfl) ?_
              intro w138 M139 hk140 shk140
              refine SL.run (d := 15) (v := .int .u32 0) (by kernel_rfl) ?_
              refine SL.run (d := 16) (v := .int .i64 4) (by kernel_rfl) ?_
              refine SL.nil ?_
              refine SC.next ?_
              refine SC.seq (by kernel_rfl) ?_
              refine SC.region [0, 1, 2, 3, 4, 5, 6, 7, 8, 9] (by kernel_rfl) (by kernel_rfl) ?_
              refine SL.run (d := 93) (v := .int .i64 4) (by kernel_rfl) ?_
              refine SL.run (d := 94) (v := .bool false) (by kernel_rfl) ?_
              refine SL.run (d := 95) (v := .int .i64 1) (by kernel_rfl) ?_
              refine SL.run (d := 96) (v := .bool true) (by kernel_rfl) ?_
              refine SL.run (d := 97) (v := .bool true) (by kernel_rfl) ?_
              refine SL.run (d := 98) (v := .slice ma ml.length mc) (by kernel_rfl) ?_
              refine SL.builtin (d := 99) (b := .len) (ts := [46]) (ty := 3) (vs := [.slice ma ml.length mc]) (v := .int .i64 ((ml.length : Nat) : Int)) (by kernel_rfl) (fun k => run_len Try.underlying46 rfl k) ?_
              refine SL.bool (d := 100) (x := (((ml.length : Nat) : Int) == (0 : Int))) (y := false) ((int_beq _ _).trans km) (by kernel_rfl) ?_
              refine SL.pick (d := 101) (v := .bool false) (by kernel_rfl) ?_
              refine SL.run (d := 102) (v := .bool false) (by kernel_rfl) ?_
              refine SL.nil ?_
              refine SC.next ?_
              refine SC.no (by kernel_rfl) ?_
              refine SC.skip (by kernel_rfl) ?_
              refine SQ.blockNormal ?_
              refine SC.next ?_
              refine SC.region [0, 1, 2] (by kernel_rfl) (by kernel_rfl) ?_
              refine SL.run (d := 60) (v := .int .i64 1) (by kernel_rfl) ?_
              refine SL.run (d := 61) (v := .int .i64 2) (by kernel_rfl) ?_
              refine SL.run (d := 11) (v := .int .i64 2) (by kernel_rfl) ?_
              refine SL.nil ?_
              have M141 := M139.keep [3, 4] rfl (L' := [bx g52 #[.slice (some ⟨rb, ro, none⟩) nn rc, .slice a45 (((restF (⟨xn, ⟨xa1, xc1, xl1⟩, ⟨xa2, xc2, xl2⟩, ⟨xa3, xc3, xl3⟩⟩ : Fc).d).length) + ml.length) c46] 46, rw' a45 (((restF (⟨xn, ⟨xa1, xc1, xl1⟩, ⟨xa2, xc2, xl2⟩, ⟨xa3, xc3, xl3⟩⟩ : Fc).d).length) + ml.length) c46 5 1 (((restF (⟨xn, ⟨xa1, xc1, xl1⟩, ⟨xa2, xc2, xl2⟩, ⟨xa3, xc3, xl3⟩⟩ : Fc).d).map (Value.int .u8)) ++ (ml.map (Value.int .u8)))]) rfl
              exact ag60 2 (by kernel_rfl) ⟨M141, (by omega)⟩ (by omega)
        · skip
          have ph65 : ¬ (((i : Nat) : Int) < (2 : Int)) := of_decide_eq_false h65
          refine SL.bool (d := 59) (x := (decide (((i : Nat) : Int) < (2 : Int)))) (y := false) h65 (by kernel_rfl) ?_
          refine SL.nil ?_
          refine SC.next ?_
          refine SC.no (by kernel_rfl) ?_
          refine SC.exit (i := 0) (by kernel_rfl) ?_
          refine SQ.seqExit (by nofun) ?_
          refine ex61 (by nofun) ?_
          refine SQ.blockHere ?_
          refine SC.next ?_
          refine SC.seq (by kernel_rfl) ?_
          refine SC.region [0, 1] (by kernel_rfl) (by kernel_rfl) ?_
          refine SL.call (d := 103) (f := 11) (vs := []) (by kernel_rfl) (by kernel_rfl) (known_walk w63) ?_
          rintro e w142 ⟨rfl, hb143⟩
          refine ⟨_, rfl, ?_⟩
          have M144 := M64.call hb143
          refine SL.run (d := 6) (v := .bool true) (by kernel_rfl) ?_
          refine SL.nil ?_
          refine SC.next ?_
          refine SC.ret (by kernel_rfl) ?_
          refine SQ.ret1 (t := 6) (v := .bool true) (.inr rfl) (by kernel_rfl) (by kernel_rfl) ?_
          exact ⟨rfl, bel_then hB4 M144.bel⟩
  · skip
    refine SL.offs [3, 4, 5] (is := [6, 7, 8, 9, 10, 11]) rfl (by kernel_rfl) ?_
    refine SL.pick (d := 23) (v := .bool true) (by kernel_rfl) ?_
    refine SL.run (d := 24) (v := .bool true) (by kernel_rfl) ?_
    refine SL.offs [8, 9, 10] (is := [11]) rfl (by kernel_rfl) ?_
    refine SL.pick (d := 28) (v := .bool true) (by kernel_rfl) ?_
    refine SL.nil ?_
    refine SC.next ?_
    refine SC.yes (by kernel_rfl) ?_
    refine SC.seq (by kernel_rfl) ?_
    refine SC.region [0, 1] (by kernel_rfl) (by kernel_rfl) ?_
    refine SL.call (d := 29) (f := 11) (vs := []) (by kernel_rfl) (by kernel_rfl) (known_walk w5) ?_
    rintro e w145 ⟨rfl, hb146⟩
    refine ⟨_, rfl, ?_⟩
    have M147 := M7.call hb146
    refine SL.run (d := 6) (v := .bool true) (by kernel_rfl) ?_
    refine SL.nil ?_
    refine SC.next ?_
    refine SC.ret (by kernel_rfl) ?_
    refine SQ.seqExit (by nofun) ?_
    refine SQ.ret1 (t := 6) (v := .bool true) (.inr rfl) (by kernel_rfl) (by kernel_rfl) ?_
    exact ⟨rfl, M147.bel⟩
end Go.Proofs.Ytfnibpkojhgflaa
