/- Walks: the reference of layer 20. Printed by bin/gen_ref20.py. -/
import Derived.Test.YtgcjdkgeiopllaaFrRows
import Derived.Test.YtgcjdkgeiopllaaFaceChg
import Derived.Test.YtgcjdkgeiopllaaFaceRMay
namespace Go.Proofs.Ytgcjdkgeiopllaa
set_option linter.unusedVariables false
set_option linter.unusedSimpArgs false
open Go.RowKit

def leadsB (f : FD) (r : Rf) : Bool := decide (0 ≤ r.mod ∧ r.mod ≤ f.imps.length ∧ (0 < r.mod → 16 ≤ r.idx) ∧ (r.mod = 0 → (1 ≤ r.idx ∧ r.idx ≤ 6 ∨ 16 ≤ r.idx ∧ r.idx - 16 < f.types.length)))
/-- a table of rows, as it is read. -/
def TbRd (w : World) (a : Option Addr) (m n : Nat) (T : Nat → Nat → Bool) : Prop :=
  ∀ i k, i < m → k < n → ∃ b o bi oi ci, a = some ⟨b, o, none⟩ ∧ b < w.heap.size ∧ w.cell? ⟨b, o + i * 1, none⟩ = some (.slice (some ⟨bi, oi, none⟩) n ci) ∧ bi < w.heap.size ∧ w.cell? ⟨bi, oi + k * 1, none⟩ = some (.bool (T i k))
theorem TbRd.bel {w w' : World} {a : Option Addr} {m n : Nat} {T : Nat → Nat → Bool} (h : TbRd w a m n T) (hb : Below w.heap.size w w') : TbRd w' a m n T := fun i k hi hk => by
  obtain ⟨b, o, bi, oi, ci, h1, h2, h3, h4, h5⟩ := h i k hi hk
  exact ⟨b, o, bi, oi, ci, h1, Nat.lt_of_lt_of_le h2 hb.size, (hb.cell (p := ⟨b, _, none⟩) h2).trans h3, Nat.lt_of_lt_of_le h4 hb.size, (hb.cell (p := ⟨bi, _, none⟩) h4).trans h5⟩
/-- what a reference of a face may be, for the table to be asked. -/
def RfIn (r : Rf) (ni : Nat) (m : Nat) : Prop := i64In r.mod ∧ i64In r.idx ∧ 0 ≤ r.mod ∧ r.mod ≤ ni ∧ (r.mod = 0 → 16 ≤ r.idx → r.idx - 16 < m)

theorem once_far20 {a b : FD} {T : Nat → Nat → Prop} {r s : Rf} (h1 : 0 < r.mod) (h2 : 0 < s.mod) : onceP a b T r s ↔ (r.idx = s.idx ∧ a.imps[(r.mod - 1).toNat]? = b.imps[(s.mod - 1).toNat]?) := by
  constructor
  · rintro (h | h | h)
    · exact ⟨h.2.2.1, h.2.2.2⟩
    · omega
    · omega
  · rintro ⟨h3, h4⟩; exact .inl ⟨h1, h2, h3, h4⟩
theorem once_part {a b : FD} {T : Nat → Nat → Prop} {r s : Rf} (h : (0 < r.mod ∧ ¬ 0 < s.mod) ∨ (¬ 0 < r.mod ∧ 0 < s.mod)) : ¬ onceP a b T r s := by
  rintro (k | k | k) <;> omega
theorem once_low {a b : FD} {T : Nat → Nat → Prop} {r s : Rf} (h1 : r.mod = 0) (h2 : s.mod = 0) (h : r.idx < 16 ∨ s.idx < 16) : onceP a b T r s ↔ r.idx = s.idx := by
  constructor
  · rintro (k | k | k) <;> omega
  · intro k; exact .inr (.inl ⟨h1, h2, by omega, by omega, k⟩)
theorem once_own20 {a b : FD} {T : Nat → Nat → Prop} {r s : Rf} (h1 : r.mod = 0) (h2 : s.mod = 0) (h3 : 16 ≤ r.idx) (h4 : 16 ≤ s.idx) : onceP a b T r s ↔ T (r.idx - 16).toNat (s.idx - 16).toNat := by
  constructor
  · rintro (k | k | k)
    · omega
    · omega
    · exact k.2.2.2.2
  · intro k; exact .inr (.inr ⟨h1, h2, h3, h4, k⟩)
theorem no_iff {p : Prop} (h : ¬ p) : (false = true ↔ p) := ⟨nofun, fun k => absurd k h⟩
theorem yes_iff {p : Prop} (h : p) : (true = true ↔ p) := ⟨fun _ => h, fun _ => rfl⟩

theorem rleads_walk (x : Fc) (rm ri : Int) (w : World) (hr : i64In rm ∧ i64In ri) : Calls Try.prog 30 #[x.val, .agg #[.int .i64 rm, .int .i64 ri]] w fun e w' => e = .returned (.bool (leadsB x.d ⟨rm, ri⟩)) ∧ Below w.heap.size w w' := by
  obtain ⟨xn, ⟨xa1, xc1, xl1⟩, ⟨xa2, xc2, xl2⟩, ⟨xa3, xc3, xl3⟩⟩ := x
  obtain ⟨⟨hr1, hr2⟩, hr3, hr4⟩ := hr
  refine SC.enter (vs := [.agg #[.string xn, .slice xa1 xl1.length xc1, .slice xa2 xl2.length xc2, .slice xa3 xl3.length xc3], .agg #[.int .i64 rm, .int .i64 ri]]) (n := 44) (l := [(0, .agg #[.string xn, .slice xa1 xl1.length xc1, .slice xa2 xl2.length xc2, .slice xa3 xl3.length xc3]), (1, .agg #[.int .i64 rm, .int .i64 ri])]) Try.func30 (by kernel_rfl) (by kernel_rfl) (by kernel_rfl) (by kernel_rfl) ?_
  have M0 := Mem.start w
  refine SC.seq (by kernel_rfl) ?_
  refine SC.region [0, 1, 2] (by kernel_rfl) (by kernel_rfl) ?_
  refine SL.boxM (d := 2) (t := 26) (v := .agg #[.string xn, .slice xa1 xl1.length xc1, .slice xa2 xl2.length xc2, .slice xa3 xl3.length xc3]) (cs := #[.string xn, .slice xa1 xl1.length xc1, .slice xa2 xl2.length xc2, .slice xa3 xl3.length xc3]) M0 (by kernel_rfl) rfl ?_
  intro g1 w2 hb3 ⟨bg1, lg1⟩ M4
  refine SL.boxM (d := 3) (t := 34) (v := .agg #[.int .i64 rm, .int .i64 ri]) (cs := #[.int .i64 rm, .int .i64 ri]) M4 (by kernel_rfl) rfl ?_
  intro g5 w6 hb7 ⟨bg5, lg5⟩ M8
  refine SL.run (d := 4) (v := .bool false) (by kernel_rfl) ?_
  refine SL.nil ?_
  refine SC.next ?_
  refine SC.seq (by kernel_rfl) ?_
  refine SC.seq (by kernel_rfl) ?_
  refine SC.region [0, 1, 2, 3, 4, 5, 6, 7, 8, 9, 10] (by kernel_rfl) (by kernel_rfl) ?_
  refine SL.run (d := 5) (v := .pointer (some ⟨g5, 0, none⟩)) (by kernel_rfl) ?_
  refine SL.load (d := 6) (t := 3) (a := .pointer (some ⟨g5, 0, none⟩)) (v := .int .i64 rm) (by kernel_rfl) (M8.ldCell 0 rfl (j := 0) (v := .int .i64 rm) rfl Try.underlying3 rfl) ?_
  rcases Bool.eq_false_or_eq_true (decide (rm < (0 : Int))) with h9 | h9
  · skip
    have ph9 : rm < (0 : Int) := of_decide_eq_true h9
    refine SL.bool (d := 7) (x := (decide (rm < (0 : Int)))) (y := true) h9 (by kernel_rfl) ?_
    refine SL.run (d := 8) (v := .bool true) (by kernel_rfl) ?_
    refine SL.offs [4, 5, 6, 7, 8, 9] (is := [10]) rfl (by kernel_rfl) ?_
    refine SL.pick (d := 15) (v := .bool true) (by kernel_rfl) ?_
    refine SL.nil ?_
    refine SC.next ?_
    refine SC.yes (by kernel_rfl) ?_
    refine SC.seq (by kernel_rfl) ?_
    refine SC.region [0] (by kernel_rfl) (by kernel_rfl) ?_
    refine SL.run (d := 4) (v := .bool false) (by kernel_rfl) ?_
    refine SL.nil ?_
    refine SC.next ?_
    refine SC.ret (by kernel_rfl) ?_
    refine SQ.seqExit (by nofun) ?_
    refine SQ.ret1 (t := 4) (v := .bool false) (.inr rfl) (by kernel_rfl) (by kernel_rfl) ?_
    refine ⟨ret_bool (decide_eq_false ?_).symm, M8.bel⟩
    simp only [Fc.d, List.length_map]
    omega
  · skip
    have ph9 : ¬ (rm < (0 : Int)) := of_decide_eq_false h9
    refine SL.bool (d := 7) (x := (decide (rm < (0 : Int)))) (y := false) h9 (by kernel_rfl) ?_
    refine SL.run (d := 8) (v := .bool false) (by kernel_rfl) ?_
    refine SL.run (d := 9) (v := .pointer (some ⟨g5, 0, none⟩)) (by kernel_rfl) ?_
    refine SL.load (d := 10) (t := 3) (a := .pointer (some ⟨g5, 0, none⟩)) (v := .int .i64 rm) (by kernel_rfl) (M8.ldCell 0 rfl (j := 0) (v := .int .i64 rm) rfl Try.underlying3 rfl) ?_
    refine SL.run (d := 11) (v := .pointer (some ⟨g1, 1, none⟩)) (by kernel_rfl) ?_
    refine SL.load (d := 12) (t := 22) (a := .pointer (some ⟨g1, 1, none⟩)) (v := .slice xa1 xl1.length xc1) (by kernel_rfl) (M8.ldCell 1 rfl (j := 1) (v := .slice xa1 xl1.length xc1) rfl Try.underlying22 rfl) ?_
    refine SL.builtin (d := 13) (b := .len) (ts := [22]) (ty := 3) (vs := [.slice xa1 xl1.length xc1]) (v := .int .i64 ((xl1.length : Nat) : Int)) (by kernel_rfl) (fun k => run_len Try.underlying22 rfl k) ?_
    rcases Bool.eq_false_or_eq_true (decide (((xl1.length : Nat) : Int) < rm)) with h10 | h10
    · skip
      have ph10 : ((xl1.length : Nat) : Int) < rm := of_decide_eq_true h10
      refine SL.bool (d := 14) (x := (decide (((xl1.length : Nat) : Int) < rm))) (y := true) h10 (by kernel_rfl) ?_
      refine SL.pick (d := 15) (v := .bool true) (by kernel_rfl) ?_
      refine SL.nil ?_
      refine SC.next ?_
      refine SC.yes (by kernel_rfl) ?_
      refine SC.seq (by kernel_rfl) ?_
      refine SC.region [0] (by kernel_rfl) (by kernel_rfl) ?_
      refine SL.run (d := 4) (v := .bool false) (by kernel_rfl) ?_
      refine SL.nil ?_
      refine SC.next ?_
      refine SC.ret (by kernel_rfl) ?_
      refine SQ.seqExit (by nofun) ?_
      refine SQ.ret1 (t := 4) (v := .bool false) (.inr rfl) (by kernel_rfl) (by kernel_rfl) ?_
      refine ⟨ret_bool (decide_eq_false ?_).symm, M8.bel⟩
      simp only [Fc.d, List.length_map]
      omega
    · skip
      have ph10 : ¬ (((xl1.length : Nat) : Int) < rm) := of_decide_eq_false h10
      refine SL.bool (d := 14) (x := (decide (((xl1.length : Nat) : Int) < rm))) (y := false) h10 (by kernel_rfl) ?_
      refine SL.pick (d := 15) (v := .bool false) (by kernel_rfl) ?_
      refine SL.nil ?_
      refine SC.next ?_
      refine SC.no (by kernel_rfl) ?_
      refine SC.skip (by kernel_rfl) ?_
      refine SC.next ?_
      refine SC.seq (by kernel_rfl) ?_
      refine SC.seq (by kernel_rfl) ?_
      refine SC.region [0, 1, 2] (by kernel_rfl) (by kernel_rfl) ?_
      refine SL.run (d := 16) (v := .pointer (some ⟨g5, 0, none⟩)) (by kernel_rfl) ?_
      refine SL.load (d := 17) (t := 3) (a := .pointer (some ⟨g5, 0, none⟩)) (v := .int .i64 rm) (by kernel_rfl) (M8.ldCell 0 rfl (j := 0) (v := .int .i64 rm) rfl Try.underlying3 rfl) ?_
      rcases Bool.eq_false_or_eq_true (decide ((0 : Int) < rm)) with h11 | h11
      · skip
        have ph11 : (0 : Int) < rm := of_decide_eq_true h11
        refine SL.bool (d := 18) (x := (decide ((0 : Int) < rm))) (y := true) h11 (by kernel_rfl) ?_
        refine SL.nil ?_
        refine SC.next ?_
        refine SC.keep (l' := [(2, .pointer (some ⟨g1, 0, none⟩)), (3, .pointer (some ⟨g5, 0, none⟩)), (4, .bool false), (18, .bool true)]) [2, 3, 4, 18] (by kernel_rfl) ?_
        refine SC.yes (by kernel_rfl) ?_
        refine SC.seq (by kernel_rfl) ?_
        refine SC.region [0, 1, 2, 3] (by kernel_rfl) (by kernel_rfl) ?_
        refine SL.run (d := 19) (v := .pointer (some ⟨g5, 1, none⟩)) (by kernel_rfl) ?_
        refine SL.load (d := 20) (t := 3) (a := .pointer (some ⟨g5, 1, none⟩)) (v := .int .i64 ri) (by kernel_rfl) (M8.ldCell 0 rfl (j := 1) (v := .int .i64 ri) rfl Try.underlying3 rfl) ?_
        rcases Bool.eq_false_or_eq_true (decide ((16 : Int) ≤ ri)) with h12 | h12
        · skip
          have ph12 : (16 : Int) ≤ ri := of_decide_eq_true h12
          refine SL.bool (d := 21) (x := (decide ((16 : Int) ≤ ri))) (y := true) h12 (by kernel_rfl) ?_
          refine SL.run (d := 4) (v := .bool true) (by kernel_rfl) ?_
          refine SL.nil ?_
          refine SC.next ?_
          refine SC.ret (by kernel_rfl) ?_
          refine SQ.seqExit (by nofun) ?_
          refine SQ.ret1 (t := 4) (v := .bool true) (.inr rfl) (by kernel_rfl) (by kernel_rfl) ?_
          refine ⟨ret_bool (decide_eq_true ?_).symm, M8.bel⟩
          simp only [Fc.d, List.length_map]
          omega
        · skip
          have ph12 : ¬ ((16 : Int) ≤ ri) := of_decide_eq_false h12
          refine SL.bool (d := 21) (x := (decide ((16 : Int) ≤ ri))) (y := false) h12 (by kernel_rfl) ?_
          refine SL.run (d := 4) (v := .bool false) (by kernel_rfl) ?_
          refine SL.nil ?_
          refine SC.next ?_
          refine SC.ret (by kernel_rfl) ?_
          refine SQ.seqExit (by nofun) ?_
          refine SQ.ret1 (t := 4) (v := .bool false) (.inr rfl) (by kernel_rfl) (by kernel_rfl) ?_
          refine ⟨ret_bool (decide_eq_false ?_).symm, M8.bel⟩
          simp only [Fc.d, List.length_map]
          omega
      · skip
        have ph11 : ¬ ((0 : Int) < rm) := of_decide_eq_false h11
        refine SL.bool (d := 18) (x := (decide ((0 : Int) < rm))) (y := false) h11 (by kernel_rfl) ?_
        refine SL.nil ?_
        refine SC.next ?_
        refine SC.keep (l' := [(2, .pointer (some ⟨g1, 0, none⟩)), (3, .pointer (some ⟨g5, 0, none⟩)), (4, .bool false), (18, .bool false)]) [2, 3, 4, 18] (by kernel_rfl) ?_
        refine SC.no (by kernel_rfl) ?_
        refine SC.skip (by kernel_rfl) ?_
        refine SC.next ?_
        refine SC.seq (by kernel_rfl) ?_
        refine SC.region [0, 1, 2, 3, 4, 5, 6, 7, 8, 9, 10, 11, 12, 13, 14, 15, 16, 17, 18, 19, 20, 21, 22] (by kernel_rfl) (by kernel_rfl) ?_
        refine SL.run (d := 22) (v := .pointer (some ⟨g5, 1, none⟩)) (by kernel_rfl) ?_
        refine SL.load (d := 23) (t := 3) (a := .pointer (some ⟨g5, 1, none⟩)) (v := .int .i64 ri) (by kernel_rfl) (M8.ldCell 0 rfl (j := 1) (v := .int .i64 ri) rfl Try.underlying3 rfl) ?_
        rcases Bool.eq_false_or_eq_true (decide ((1 : Int) ≤ ri)) with h13 | h13
        · skip
          have ph13 : (1 : Int) ≤ ri := of_decide_eq_true h13
          refine SL.bool (d := 24) (x := (decide ((1 : Int) ≤ ri))) (y := true) h13 (by kernel_rfl) ?_
          refine SL.run (d := 25) (v := .bool true) (by kernel_rfl) ?_
          refine SL.run (d := 26) (v := .pointer (some ⟨g5, 1, none⟩)) (by kernel_rfl) ?_
          refine SL.load (d := 27) (t := 3) (a := .pointer (some ⟨g5, 1, none⟩)) (v := .int .i64 ri) (by kernel_rfl) (M8.ldCell 0 rfl (j := 1) (v := .int .i64 ri) rfl Try.underlying3 rfl) ?_
          rcases Bool.eq_false_or_eq_true (decide (ri ≤ (6 : Int))) with h14 | h14
          · skip
            have ph14 : ri ≤ (6 : Int) := of_decide_eq_true h14
            refine SL.bool (d := 28) (x := (decide (ri ≤ (6 : Int)))) (y := true) h14 (by kernel_rfl) ?_
            refine SL.pick (d := 29) (v := .bool true) (by kernel_rfl) ?_
            refine SL.run (d := 30) (v := .bool true) (by kernel_rfl) ?_
            refine SL.offs [9, 10, 11] (is := [12, 13, 14, 15, 16, 17, 18, 19, 20, 21, 22]) rfl (by kernel_rfl) ?_
            refine SL.off' (d := 34) (by kernel_rfl) ?_
            refine SL.offs [13, 14, 15, 16, 17, 18, 19, 20] (is := [21, 22]) rfl (by kernel_rfl) ?_
            refine SL.pick (d := 43) (v := .bool true) (by kernel_rfl) ?_
            refine SL.run (d := 4) (v := .bool true) (by kernel_rfl) ?_
            refine SL.nil ?_
            refine SC.next ?_
            refine SC.keep (l' := [(4, .bool true)]) [4] (by kernel_rfl) ?_
            refine SC.ret (by kernel_rfl) ?_
            refine SQ.ret1 (t := 4) (v := .bool true) (.inr rfl) (by kernel_rfl) (by kernel_rfl) ?_
            refine ⟨ret_bool (decide_eq_true ?_).symm, M8.bel⟩
            simp only [Fc.d, List.length_map]
            omega
          · skip
            have ph14 : ¬ (ri ≤ (6 : Int)) := of_decide_eq_false h14
            refine SL.bool (d := 28) (x := (decide (ri ≤ (6 : Int)))) (y := false) h14 (by kernel_rfl) ?_
            refine SL.pick (d := 29) (v := .bool false) (by kernel_rfl) ?_
            refine SL.run (d := 30) (v := .bool false) (by kernel_rfl) ?_
            refine SL.run (d := 31) (v := .pointer (some ⟨g5, 1, none⟩)) (by kernel_rfl) ?_
            refine SL.load (d := 32) (t := 3) (a := .pointer (some ⟨g5, 1, none⟩)) (v := .int .i64 ri) (by kernel_rfl) (M8.ldCell 0 rfl (j := 1) (v := .int .i64 ri) rfl Try.underlying3 rfl) ?_
            rcases Bool.eq_false_or_eq_true (decide ((16 : Int) ≤ ri)) with h15 | h15
            · skip
              have ph15 : (16 : Int) ≤ ri := of_decide_eq_true h15
              refine SL.bool (d := 33) (x := (decide ((16 : Int) ≤ ri))) (y := true) h15 (by kernel_rfl) ?_
              refine SL.run (d := 34) (v := .bool true) (by kernel_rfl) ?_
              refine SL.run (d := 35) (v := .pointer (some ⟨g5, 1, none⟩)) (by kernel_rfl) ?_
              refine SL.load (d := 36) (t := 3) (a := .pointer (some ⟨g5, 1, none⟩)) (v := .int .i64 ri) (by kernel_rfl) (M8.ldCell 0 rfl (j := 1) (v := .int .i64 ri) rfl Try.underlying3 rfl) ?_
              refine SL.int (d := 37) (q := .i64) (x := IntKind.wrap .i64 (ri - (16 : Int))) (y := ri - (16 : Int)) (wr64 (by omega) (by omega) (by omega)) (by kernel_rfl) ?_
              refine SL.run (d := 38) (v := .pointer (some ⟨g1, 2, none⟩)) (by kernel_rfl) ?_
              refine SL.load (d := 39) (t := 23) (a := .pointer (some ⟨g1, 2, none⟩)) (v := .slice xa2 xl2.length xc2) (by kernel_rfl) (M8.ldCell 1 rfl (j := 2) (v := .slice xa2 xl2.length xc2) rfl Try.underlying23 rfl) ?_
              refine SL.builtin (d := 40) (b := .len) (ts := [23]) (ty := 3) (vs := [.slice xa2 xl2.length xc2]) (v := .int .i64 ((xl2.length : Nat) : Int)) (by kernel_rfl) (fun k => run_len Try.underlying23 rfl k) ?_
              rcases Bool.eq_false_or_eq_true (decide ((ri - (16 : Int)) < ((xl2.length : Nat) : Int))) with h16 | h16
              · skip
                have ph16 : (ri - (16 : Int)) < ((xl2.length : Nat) : Int) := of_decide_eq_true h16
                refine SL.bool (d := 41) (x := (decide ((ri - (16 : Int)) < ((xl2.length : Nat) : Int)))) (y := true) h16 (by kernel_rfl) ?_
                refine SL.pick (d := 42) (v := .bool true) (by kernel_rfl) ?_
                refine SL.pick (d := 43) (v := .bool true) (by kernel_rfl) ?_
                refine SL.run (d := 4) (v := .bool true) (by kernel_rfl) ?_
                refine SL.nil ?_
                refine SC.next ?_
                refine SC.keep (l' := [(4, .bool true)]) [4] (by kernel_rfl) ?_
                refine SC.ret (by kernel_rfl) ?_
                refine SQ.ret1 (t := 4) (v := .bool true) (.inr rfl) (by kernel_rfl) (by kernel_rfl) ?_
                refine ⟨ret_bool (decide_eq_true ?_).symm, M8.bel⟩
                simp only [Fc.d, List.length_map]
                omega
              · skip
                have ph16 : ¬ ((ri - (16 : Int)) < ((xl2.length : Nat) : Int)) := of_decide_eq_false h16
                refine SL.bool (d := 41) (x := (decide ((ri - (16 : Int)) < ((xl2.length : Nat) : Int)))) (y := false) h16 (by kernel_rfl) ?_
                refine SL.pick (d := 42) (v := .bool false) (by kernel_rfl) ?_
                refine SL.pick (d := 43) (v := .bool false) (by kernel_rfl) ?_
                refine SL.run (d := 4) (v := .bool false) (by kernel_rfl) ?_
                refine SL.nil ?_
                refine SC.next ?_
                refine SC.keep (l' := [(4, .bool false)]) [4] (by kernel_rfl) ?_
                refine SC.ret (by kernel_rfl) ?_
                refine SQ.ret1 (t := 4) (v := .bool false) (.inr rfl) (by kernel_rfl) (by kernel_rfl) ?_
                refine ⟨ret_bool (decide_eq_false ?_).symm, M8.bel⟩
                simp only [Fc.d, List.length_map]
                omega
            · skip
              have ph15 : ¬ ((16 : Int) ≤ ri) := of_decide_eq_false h15
              refine SL.bool (d := 33) (x := (decide ((16 : Int) ≤ ri))) (y := false) h15 (by kernel_rfl) ?_
              refine SL.run (d := 34) (v := .bool false) (by kernel_rfl) ?_
              refine SL.offs [13, 14, 15, 16, 17, 18, 19] (is := [20, 21, 22]) rfl (by kernel_rfl) ?_
              refine SL.pick (d := 42) (v := .bool false) (by kernel_rfl) ?_
              refine SL.pick (d := 43) (v := .bool false) (by kernel_rfl) ?_
              refine SL.run (d := 4) (v := .bool false) (by kernel_rfl) ?_
              refine SL.nil ?_
              refine SC.next ?_
              refine SC.keep (l' := [(4, .bool false)]) [4] (by kernel_rfl) ?_
              refine SC.ret (by kernel_rfl) ?_
              refine SQ.ret1 (t := 4) (v := .bool false) (.inr rfl) (by kernel_rfl) (by kernel_rfl) ?_
              refine ⟨ret_bool (decide_eq_false ?_).symm, M8.bel⟩
              simp only [Fc.d, List.length_map]
              omega
        · skip
          have ph13 : ¬ ((1 : Int) ≤ ri) := of_decide_eq_false h13
          refine SL.bool (d := 24) (x := (decide ((1 : Int) ≤ ri))) (y := false) h13 (by kernel_rfl) ?_
          refine SL.run (d := 25) (v := .bool false) (by kernel_rfl) ?_
          refine SL.offs [4, 5, 6] (is := [7, 8, 9, 10, 11, 12, 13, 14, 15, 16, 17, 18, 19, 20, 21, 22]) rfl (by kernel_rfl) ?_
          refine SL.pick (d := 29) (v := .bool false) (by kernel_rfl) ?_
          refine SL.run (d := 30) (v := .bool false) (by kernel_rfl) ?_
          refine SL.run (d := 31) (v := .pointer (some ⟨g5, 1, none⟩)) (by kernel_rfl) ?_
          refine SL.load (d := 32) (t := 3) (a := .pointer (some ⟨g5, 1, none⟩)) (v := .int .i64 ri) (by kernel_rfl) (M8.ldCell 0 rfl (j := 1) (v := .int .i64 ri) rfl Try.underlying3 rfl) ?_
          rcases Bool.eq_false_or_eq_true (decide ((16 : Int) ≤ ri)) with h17 | h17
          · skip
            have ph17 : (16 : Int) ≤ ri := of_decide_eq_true h17
            refine SL.bool (d := 33) (x := (decide ((16 : Int) ≤ ri))) (y := true) h17 (by kernel_rfl) ?_
            refine SL.run (d := 34) (v := .bool true) (by kernel_rfl) ?_
            refine SL.run (d := 35) (v := .pointer (some ⟨g5, 1, none⟩)) (by kernel_rfl) ?_
            refine SL.load (d := 36) (t := 3) (a := .pointer (some ⟨g5, 1, none⟩)) (v := .int .i64 ri) (by kernel_rfl) (M8.ldCell 0 rfl (j := 1) (v := .int .i64 ri) rfl Try.underlying3 rfl) ?_
            refine SL.int (d := 37) (q := .i64) (x := IntKind.wrap .i64 (ri - (16 : Int))) (y := ri - (16 : Int)) (wr64 (by omega) (by omega) (by omega)) (by kernel_rfl) ?_
            refine SL.run (d := 38) (v := .pointer (some ⟨g1, 2, none⟩)) (by kernel_rfl) ?_
            refine SL.load (d := 39) (t := 23) (a := .pointer (some ⟨g1, 2, none⟩)) (v := .slice xa2 xl2.length xc2) (by kernel_rfl) (M8.ldCell 1 rfl (j := 2) (v := .slice xa2 xl2.length xc2) rfl Try.underlying23 rfl) ?_
            refine SL.builtin (d := 40) (b := .len) (ts := [23]) (ty := 3) (vs := [.slice xa2 xl2.length xc2]) (v := .int .i64 ((xl2.length : Nat) : Int)) (by kernel_rfl) (fun k => run_len Try.underlying23 rfl k) ?_
            rcases Bool.eq_false_or_eq_true (decide ((ri - (16 : Int)) < ((xl2.length : Nat) : Int))) with h18 | h18
            · skip
              have ph18 : (ri - (16 : Int)) < ((xl2.length : Nat) : Int) := of_decide_eq_true h18
              refine SL.bool (d := 41) (x := (decide ((ri - (16 : Int)) < ((xl2.length : Nat) : Int)))) (y := true) h18 (by kernel_rfl) ?_
              refine SL.pick (d := 42) (v := .bool true) (by kernel_rfl) ?_
              refine SL.pick (d := 43) (v := .bool true) (by kernel_rfl) ?_
              refine SL.run (d := 4) (v := .bool true) (by kernel_rfl) ?_
              refine SL.nil ?_
              refine SC.next ?_
              refine SC.keep (l' := [(4, .bool true)]) [4] (by kernel_rfl) ?_
              refine SC.ret (by kernel_rfl) ?_
              refine SQ.ret1 (t := 4) (v := .bool true) (.inr rfl) (by kernel_rfl) (by kernel_rfl) ?_
              refine ⟨ret_bool (decide_eq_true ?_).symm, M8.bel⟩
              simp only [Fc.d, List.length_map]
              omega
            · skip
              have ph18 : ¬ ((ri - (16 : Int)) < ((xl2.length : Nat) : Int)) := of_decide_eq_false h18
              refine SL.bool (d := 41) (x := (decide ((ri - (16 : Int)) < ((xl2.length : Nat) : Int)))) (y := false) h18 (by kernel_rfl) ?_
              refine SL.pick (d := 42) (v := .bool false) (by kernel_rfl) ?_
              refine SL.pick (d := 43) (v := .bool false) (by kernel_rfl) ?_
              refine SL.run (d := 4) (v := .bool false) (by kernel_rfl) ?_
              refine SL.nil ?_
              refine SC.next ?_
              refine SC.keep (l' := [(4, .bool false)]) [4] (by kernel_rfl) ?_
              refine SC.ret (by kernel_rfl) ?_
              refine SQ.ret1 (t := 4) (v := .bool false) (.inr rfl) (by kernel_rfl) (by kernel_rfl) ?_
              refine ⟨ret_bool (decide_eq_false ?_).symm, M8.bel⟩
              simp only [Fc.d, List.length_map]
              omega
          · skip
            have ph17 : ¬ ((16 : Int) ≤ ri) := of_decide_eq_false h17
            refine SL.bool (d := 33) (x := (decide ((16 : Int) ≤ ri))) (y := false) h17 (by kernel_rfl) ?_
            refine SL.run (d := 34) (v := .bool false) (by kernel_rfl) ?_
            refine SL.offs [13, 14, 15, 16, 17, 18, 19] (is := [20, 21, 22]) rfl (by kernel_rfl) ?_
            refine SL.pick (d := 42) (v := .bool false) (by kernel_rfl) ?_
            refine SL.pick (d := 43) (v := .bool false) (by kernel_rfl) ?_
            refine SL.run (d := 4) (v := .bool false) (by kernel_rfl) ?_
            refine SL.nil ?_
            refine SC.next ?_
            refine SC.keep (l' := [(4, .bool false)]) [4] (by kernel_rfl) ?_
            refine SC.ret (by kernel_rfl) ?_
            refine SQ.ret1 (t := 4) (v := .bool false) (.inr rfl) (by kernel_rfl) (by kernel_rfl) ?_
            refine ⟨ret_bool (decide_eq_false ?_).symm, M8.bel⟩
            simp only [Fc.d, List.length_map]
            omega
theorem once_walk (x y : Fc) (rm ri sm si : Int) (ta : Option Addr) (m tc n : Nat) (T : Nat → Nat → Bool) (w : World) (hx : x.Rd w) (hy : y.Rd w) (hr : RfIn ⟨rm, ri⟩ x.imps.l.length m) (hs : RfIn ⟨sm, si⟩ y.imps.l.length n) (ht : TbRd w ta m n T) :
    Calls Try.prog 29 #[x.val, .agg #[.int .i64 rm, .int .i64 ri], y.val, .agg #[.int .i64 sm, .int .i64 si], .slice ta m tc] w fun e w' => ∃ R : Bool, e = .returned (.bool R) ∧ (R = true ↔ onceP x.d y.d (fun i k => T i k = true) ⟨rm, ri⟩ ⟨sm, si⟩) ∧ Below w.heap.size w w' := by
  obtain ⟨xn, ⟨xa1, xc1, xl1⟩, ⟨xa2, xc2, xl2⟩, ⟨xa3, xc3, xl3⟩⟩ := x
  obtain ⟨yn, ⟨ya1, yc1, yl1⟩, ⟨ya2, yc2, yl2⟩, ⟨ya3, yc3, yl3⟩⟩ := y
  obtain ⟨⟨hr1, hr2⟩, ⟨hr3, hr4⟩, hr5, hr6, hr7⟩ := hr
  obtain ⟨⟨hs1, hs2⟩, ⟨hs3, hs4⟩, hs5, hs6, hs7⟩ := hs
  have ui : (⟨xn, ⟨xa1, xc1, xl1⟩, ⟨xa2, xc2, xl2⟩, ⟨xa3, xc3, xl3⟩⟩ : Fc).d.imps = xl1 := rfl
  have vi : (⟨yn, ⟨ya1, yc1, yl1⟩, ⟨ya2, yc2, yl2⟩, ⟨ya3, yc3, yl3⟩⟩ : Fc).d.imps = yl1 := rfl
  dsimp only at hr1 hr2 hr3 hr4 hr5 hr6 hr7 hs1 hs2 hs3 hs4 hs5 hs6 hs7
  refine SC.enter (vs := [.agg #[.string xn, .slice xa1 xl1.length xc1, .slice xa2 xl2.length xc2, .slice xa3 xl3.length xc3], .agg #[.int .i64 rm, .int .i64 ri], .agg #[.string yn, .slice ya1 yl1.length yc1, .slice ya2 yl2.length yc2, .slice ya3 yl3.length yc3], .agg #[.int .i64 sm, .int .i64 si], .slice ta m tc]) (n := 96) (l := [(0, .agg #[.string xn, .slice xa1 xl1.length xc1, .slice xa2 xl2.length xc2, .slice xa3 xl3.length xc3]), (1, .agg #[.int .i64 rm, .int .i64 ri]), (2, .agg #[.string yn, .slice ya1 yl1.length yc1, .slice ya2 yl2.length yc2, .slice ya3 yl3.length yc3]), (3, .agg #[.int .i64 sm, .int .i64 si]), (4, .slice ta m tc)]) Try.func29 (by kernel_rfl) (by kernel_rfl) (by kernel_rfl) (by kernel_rfl) ?_
  have M0 := Mem.start w
  refine SC.seq (by kernel_rfl) ?_
  refine SC.region [0, 1, 2, 3, 4] (by kernel_rfl) (by kernel_rfl) ?_
  refine SL.boxM (d := 5) (t := 26) (v := .agg #[.string xn, .slice xa1 xl1.length xc1, .slice xa2 xl2.length xc2, .slice xa3 xl3.length xc3]) (cs := #[.string xn, .slice xa1 xl1.length xc1, .slice xa2 xl2.length xc2, .slice xa3 xl3.length xc3]) M0 (by kernel_rfl) rfl ?_
  intro g1 w2 hb3 ⟨bg1, lg1⟩ M4
  refine SL.boxM (d := 6) (t := 34) (v := .agg #[.int .i64 rm, .int .i64 ri]) (cs := #[.int .i64 rm, .int .i64 ri]) M4 (by kernel_rfl) rfl ?_
  intro g5 w6 hb7 ⟨bg5, lg5⟩ M8
  refine SL.boxM (d := 7) (t := 26) (v := .agg #[.string yn, .slice ya1 yl1.length yc1, .slice ya2 yl2.length yc2, .slice ya3 yl3.length yc3]) (cs := #[.string yn, .slice ya1 yl1.length yc1, .slice ya2 yl2.length yc2, .slice ya3 yl3.length yc3]) M8 (by kernel_rfl) rfl ?_
  intro g9 w10 hb11 ⟨bg9, lg9⟩ M12
  refine SL.boxM (d := 8) (t := 34) (v := .agg #[.int .i64 sm, .int .i64 si]) (cs := #[.int .i64 sm, .int .i64 si]) M12 (by kernel_rfl) rfl ?_
  intro g13 w14 hb15 ⟨bg13, lg13⟩ M16
  refine SL.run (d := 10) (v := .bool false) (by kernel_rfl) ?_
  refine SL.nil ?_
  refine SC.next ?_
  refine SC.seq (by kernel_rfl) ?_
  refine SC.seq (by kernel_rfl) ?_
  refine SC.region [0, 1, 2, 3, 4, 5, 6, 7] (by kernel_rfl) (by kernel_rfl) ?_
  refine SL.run (d := 11) (v := .pointer (some ⟨g5, 0, none⟩)) (by kernel_rfl) ?_
  refine SL.load (d := 12) (t := 3) (a := .pointer (some ⟨g5, 0, none⟩)) (v := .int .i64 rm) (by kernel_rfl) (M16.ldCell 2 rfl (j := 0) (v := .int .i64 rm) rfl Try.underlying3 rfl) ?_
  rcases Bool.eq_false_or_eq_true (decide ((0 : Int) < rm)) with h17 | h17
  · skip
    have ph17 : (0 : Int) < rm := of_decide_eq_true h17
    obtain ⟨ub, uo, ⟨un, uk⟩, rfl, hub, hu, _, huc⟩ := Rows.elem (hx.imps : Rows impD w ⟨xa1, xc1, xl1⟩) (i := (rm - 1).toNat) (by omega)
    refine SL.bool (d := 13) (x := (decide ((0 : Int) < rm))) (y := true) h17 (by kernel_rfl) ?_
    refine SL.run (d := 14) (v := .bool true) (by kernel_rfl) ?_
    refine SL.offs [4, 5, 6] (is := [7]) rfl (by kernel_rfl) ?_
    refine SL.pick (d := 18) (v := .bool true) (by kernel_rfl) ?_
    refine SL.nil ?_
    refine SC.next ?_
    refine SC.yes (by kernel_rfl) ?_
    refine SC.seq (by kernel_rfl) ?_
    refine SC.mix [] [0, 1, 2, 3, 4, 5, 6, 7, 8, 9, 10, 11, 12, 13, 14, 15, 16, 17, 18, 19, 20, 21, 22, 23, 24, 25, 26, 27, 28, 29, 30, 31, 32, 33, 34, 35, 36, 37, 38, 39, 40, 41, 42, 43, 44, 45, 46, 47, 48, 49, 50, 51, 52, 53] (by kernel_rfl) (by kernel_rfl) (by kernel_rfl) (PanOk.seq (PanOk.seq PanOk.body)) ?_
    intro w18 hb19
    have M20 := M16.call hb19
    refine SM.last ?_
    refine SU.run (d := 19) (v := .pointer (some ⟨g5, 0, none⟩)) (fun y hy => by kernel_rfl) ?_
    refine SU.load (d := 20) (t := 3) (b := .pointer (some ⟨g5, 0, none⟩)) (v := .int .i64 rm) (by kernel_rfl) (fun y hy => ((M20.call hy).ldCell 2 rfl (j := 0) (v := .int .i64 rm) rfl Try.underlying3 rfl)) ?_
    refine SU.bool (d := 21) (x := (decide ((0 : Int) < rm))) (z := true) h17 (fun y hy => by kernel_rfl) ?_
    refine SU.run (d := 22) (v := .bool true) (fun y hy => by kernel_rfl) ?_
    refine SU.run (d := 23) (v := .pointer (some ⟨g13, 0, none⟩)) (fun y hy => by kernel_rfl) ?_
    refine SU.load (d := 24) (t := 3) (b := .pointer (some ⟨g13, 0, none⟩)) (v := .int .i64 sm) (by kernel_rfl) (fun y hy => ((M20.call hy).ldCell 0 rfl (j := 0) (v := .int .i64 sm) rfl Try.underlying3 rfl)) ?_
    rcases Bool.eq_false_or_eq_true (decide ((0 : Int) < sm)) with h21 | h21
    · skip
      have ph21 : (0 : Int) < sm := of_decide_eq_true h21
      obtain ⟨vb, vo, ⟨vn, vk⟩, rfl, hvb, hv, _, hvc⟩ := Rows.elem (hy.imps : Rows impD w ⟨ya1, yc1, yl1⟩) (i := (sm - 1).toNat) (by omega)
      refine SU.bool (d := 25) (x := (decide ((0 : Int) < sm))) (z := true) h21 (fun y hy => by kernel_rfl) ?_
      refine SU.pick (d := 26) (v := .bool true) (by kernel_rfl) ?_
      refine SU.run (d := 27) (v := .bool true) (fun y hy => by kernel_rfl) ?_
      refine SU.run (d := 28) (v := .pointer (some ⟨g5, 1, none⟩)) (fun y hy => by kernel_rfl) ?_
      refine SU.load (d := 29) (t := 3) (b := .pointer (some ⟨g5, 1, none⟩)) (v := .int .i64 ri) (by kernel_rfl) (fun y hy => ((M20.call hy).ldCell 2 rfl (j := 1) (v := .int .i64 ri) rfl Try.underlying3 rfl)) ?_
      refine SU.run (d := 30) (v := .pointer (some ⟨g13, 1, none⟩)) (fun y hy => by kernel_rfl) ?_
      refine SU.load (d := 31) (t := 3) (b := .pointer (some ⟨g13, 1, none⟩)) (v := .int .i64 si) (by kernel_rfl) (fun y hy => ((M20.call hy).ldCell 0 rfl (j := 1) (v := .int .i64 si) rfl Try.underlying3 rfl)) ?_
      rcases Bool.eq_false_or_eq_true (decide (ri = si)) with h22 | h22
      · skip
        have ph22 : ri = si := of_decide_eq_true h22
        refine SU.bool (d := 32) (x := (ri == si)) (z := true) ((int_beq _ _).trans h22) (fun y hy => by kernel_rfl) ?_
        refine SU.pick (d := 33) (v := .bool true) (by kernel_rfl) ?_
        refine SU.run (d := 34) (v := .bool true) (fun y hy => by kernel_rfl) ?_
        refine SU.run (d := 35) (v := .pointer (some ⟨g1, 1, none⟩)) (fun y hy => by kernel_rfl) ?_
        refine SU.load (d := 36) (t := 22) (b := .pointer (some ⟨g1, 1, none⟩)) (v := .slice (some ⟨ub, uo, none⟩) xl1.length xc1) (by kernel_rfl) (fun y hy => ((M20.call hy).ldCell 3 rfl (j := 1) (v := .slice (some ⟨ub, uo, none⟩) xl1.length xc1) rfl Try.underlying22 rfl)) ?_
        refine SU.run (d := 37) (v := .pointer (some ⟨g5, 0, none⟩)) (fun y hy => by kernel_rfl) ?_
        refine SU.load (d := 38) (t := 3) (b := .pointer (some ⟨g5, 0, none⟩)) (v := .int .i64 rm) (by kernel_rfl) (fun y hy => ((M20.call hy).ldCell 2 rfl (j := 0) (v := .int .i64 rm) rfl Try.underlying3 rfl)) ?_
        refine SU.int (d := 39) (q := .i64) (x := IntKind.wrap .i64 (rm - (1 : Int))) (z := rm - (1 : Int)) (wr64 (by omega) (by omega) (by omega)) (fun y hy => by kernel_rfl) ?_
        refine SU.index (d := 40) (t := 22) (e := 75) (b := ub) (o := uo) (len := xl1.length) (cap := xc1) (sz := 2) (k := .i64) (m := rm - (1 : Int)) ((rm - (1 : Int)).toNat) (by kernel_rfl) Try.underlying22 (by kernel_rfl) (by omega) (by omega) ?_
        refine SU.run (d := 41) (v := .pointer (some ⟨ub, uo + ((rm - (1 : Int)).toNat) * 2, none⟩)) (fun y hy => by kernel_rfl) ?_
        refine SU.load (d := 42) (t := 9) (b := .pointer (some ⟨ub, uo + ((rm - (1 : Int)).toNat) * 2, none⟩)) (v := .string un) (by kernel_rfl) (fun y hy => (ld_one ((M20.call hy).old hub (huc 0 _ rfl)) Try.underlying9 rfl)) ?_
        refine SU.run (d := 43) (v := .pointer (some ⟨g9, 1, none⟩)) (fun y hy => by kernel_rfl) ?_
        refine SU.load (d := 44) (t := 22) (b := .pointer (some ⟨g9, 1, none⟩)) (v := .slice (some ⟨vb, vo, none⟩) yl1.length yc1) (by kernel_rfl) (fun y hy => ((M20.call hy).ldCell 1 rfl (j := 1) (v := .slice (some ⟨vb, vo, none⟩) yl1.length yc1) rfl Try.underlying22 rfl)) ?_
        refine SU.run (d := 45) (v := .pointer (some ⟨g13, 0, none⟩)) (fun y hy => by kernel_rfl) ?_
        refine SU.load (d := 46) (t := 3) (b := .pointer (some ⟨g13, 0, none⟩)) (v := .int .i64 sm) (by kernel_rfl) (fun y hy => ((M20.call hy).ldCell 0 rfl (j := 0) (v := .int .i64 sm) rfl Try.underlying3 rfl)) ?_
        refine SU.int (d := 47) (q := .i64) (x := IntKind.wrap .i64 (sm - (1 : Int))) (z := sm - (1 : Int)) (wr64 (by omega) (by omega) (by omega)) (fun y hy => by kernel_rfl) ?_
        refine SU.index (d := 48) (t := 22) (e := 75) (b := vb) (o := vo) (len := yl1.length) (cap := yc1) (sz := 2) (k := .i64) (m := sm - (1 : Int)) ((sm - (1 : Int)).toNat) (by kernel_rfl) Try.underlying22 (by kernel_rfl) (by omega) (by omega) ?_
        refine SU.run (d := 49) (v := .pointer (some ⟨vb, vo + ((sm - (1 : Int)).toNat) * 2, none⟩)) (fun y hy => by kernel_rfl) ?_
        refine SU.load (d := 50) (t := 9) (b := .pointer (some ⟨vb, vo + ((sm - (1 : Int)).toNat) * 2, none⟩)) (v := .string vn) (by kernel_rfl) (fun y hy => (ld_one ((M20.call hy).old hvb (hvc 0 _ rfl)) Try.underlying9 rfl)) ?_
        rcases Bool.eq_false_or_eq_true (decide (un = vn)) with h23 | h23
        · skip
          have ph23 : un = vn := of_decide_eq_true h23
          refine SU.bool (d := 51) (x := (un.toList == vn.toList)) (z := true) ((str_beq _ _).trans h23) (fun y hy => by kernel_rfl) ?_
          refine SU.pick (d := 52) (v := .bool true) (by kernel_rfl) ?_
          refine SU.run (d := 53) (v := .bool true) (fun y hy => by kernel_rfl) ?_
          refine SU.run (d := 54) (v := .pointer (some ⟨g1, 1, none⟩)) (fun y hy => by kernel_rfl) ?_
          refine SU.load (d := 55) (t := 22) (b := .pointer (some ⟨g1, 1, none⟩)) (v := .slice (some ⟨ub, uo, none⟩) xl1.length xc1) (by kernel_rfl) (fun y hy => ((M20.call hy).ldCell 3 rfl (j := 1) (v := .slice (some ⟨ub, uo, none⟩) xl1.length xc1) rfl Try.underlying22 rfl)) ?_
          refine SU.run (d := 56) (v := .pointer (some ⟨g5, 0, none⟩)) (fun y hy => by kernel_rfl) ?_
          refine SU.load (d := 57) (t := 3) (b := .pointer (some ⟨g5, 0, none⟩)) (v := .int .i64 rm) (by kernel_rfl) (fun y hy => ((M20.call hy).ldCell 2 rfl (j := 0) (v := .int .i64 rm) rfl Try.underlying3 rfl)) ?_
          refine SU.int (d := 58) (q := .i64) (x := IntKind.wrap .i64 (rm - (1 : Int))) (z := rm - (1 : Int)) (wr64 (by omega) (by omega) (by omega)) (fun y hy => by kernel_rfl) ?_
          refine SU.index (d := 59) (t := 22) (e := 75) (b := ub) (o := uo) (len := xl1.length) (cap := xc1) (sz := 2) (k := .i64) (m := rm - (1 : Int)) ((rm - (1 : Int)).toNat) (by kernel_rfl) Try.underlying22 (by kernel_rfl) (by omega) (by omega) ?_
          refine SU.run (d := 60) (v := .pointer (some ⟨ub, uo + ((rm - (1 : Int)).toNat) * 2 + 1, none⟩)) (fun y hy => by kernel_rfl) ?_
          refine SU.load (d := 61) (t := 30) (b := .pointer (some ⟨ub, uo + ((rm - (1 : Int)).toNat) * 2 + 1, none⟩)) (v := .int .u32 uk) (by kernel_rfl) (fun y hy => (ld_one ((M20.call hy).old hub (huc 1 _ rfl)) Try.underlying30 rfl)) ?_
          refine SU.run (d := 62) (v := .pointer (some ⟨g9, 1, none⟩)) (fun y hy => by kernel_rfl) ?_
          refine SU.load (d := 63) (t := 22) (b := .pointer (some ⟨g9, 1, none⟩)) (v := .slice (some ⟨vb, vo, none⟩) yl1.length yc1) (by kernel_rfl) (fun y hy => ((M20.call hy).ldCell 1 rfl (j := 1) (v := .slice (some ⟨vb, vo, none⟩) yl1.length yc1) rfl Try.underlying22 rfl)) ?_
          refine SU.run (d := 64) (v := .pointer (some ⟨g13, 0, none⟩)) (fun y hy => by kernel_rfl) ?_
          refine SU.load (d := 65) (t := 3) (b := .pointer (some ⟨g13, 0, none⟩)) (v := .int .i64 sm) (by kernel_rfl) (fun y hy => ((M20.call hy).ldCell 0 rfl (j := 0) (v := .int .i64 sm) rfl Try.underlying3 rfl)) ?_
          refine SU.int (d := 66) (q := .i64) (x := IntKind.wrap .i64 (sm - (1 : Int))) (z := sm - (1 : Int)) (wr64 (by omega) (by omega) (by omega)) (fun y hy => by kernel_rfl) ?_
          refine SU.index (d := 67) (t := 22) (e := 75) (b := vb) (o := vo) (len := yl1.length) (cap := yc1) (sz := 2) (k := .i64) (m := sm - (1 : Int)) ((sm - (1 : Int)).toNat) (by kernel_rfl) Try.underlying22 (by kernel_rfl) (by omega) (by omega) ?_
          refine SU.run (d := 68) (v := .pointer (some ⟨vb, vo + ((sm - (1 : Int)).toNat) * 2 + 1, none⟩)) (fun y hy => by kernel_rfl) ?_
          refine SU.load (d := 69) (t := 30) (b := .pointer (some ⟨vb, vo + ((sm - (1 : Int)).toNat) * 2 + 1, none⟩)) (v := .int .u32 vk) (by kernel_rfl) (fun y hy => (ld_one ((M20.call hy).old hvb (hvc 1 _ rfl)) Try.underlying30 rfl)) ?_
          rcases Bool.eq_false_or_eq_true (decide (uk = vk)) with h24 | h24
          · skip
            have ph24 : uk = vk := of_decide_eq_true h24
            refine SU.bool (d := 70) (x := (uk == vk)) (z := true) ((int_beq _ _).trans h24) (fun y hy => by kernel_rfl) ?_
            refine SU.pick (d := 71) (v := .bool true) (by kernel_rfl) ?_
            refine SU.run (d := 10) (v := .bool true) (fun y hy => by kernel_rfl) ?_
            refine SU.done ?_
            refine SC.next ?_
            refine SC.keep (l' := [(4, .slice ta m tc), (6, .pointer (some ⟨g5, 0, none⟩)), (8, .pointer (some ⟨g13, 0, none⟩)), (10, .bool true)]) [4, 6, 8, 10] (by kernel_rfl) ?_
            refine SC.ret (by kernel_rfl) ?_
            refine SQ.seqExit (by nofun) ?_
            refine SQ.ret1 (t := 10) (v := .bool true) (.inr rfl) (by kernel_rfl) (by kernel_rfl) ?_
            refine ⟨_, rfl, ?_, M20.bel⟩
            rw [once_far20 ‹0 < rm› ‹0 < sm›, ui, vi, hu, hv, Option.some.injEq, Imp.mk.injEq]
            exact yes_iff (by refine ⟨‹_›, ‹_›, ‹_›⟩)
          · skip
            have ph24 : ¬ (uk = vk) := of_decide_eq_false h24
            refine SU.bool (d := 70) (x := (uk == vk)) (z := false) ((int_beq _ _).trans h24) (fun y hy => by kernel_rfl) ?_
            refine SU.pick (d := 71) (v := .bool false) (by kernel_rfl) ?_
            refine SU.run (d := 10) (v := .bool false) (fun y hy => by kernel_rfl) ?_
            refine SU.done ?_
            refine SC.next ?_
            refine SC.keep (l' := [(4, .slice ta m tc), (6, .pointer (some ⟨g5, 0, none⟩)), (8, .pointer (some ⟨g13, 0, none⟩)), (10, .bool false)]) [4, 6, 8, 10] (by kernel_rfl) ?_
            refine SC.ret (by kernel_rfl) ?_
            refine SQ.seqExit (by nofun) ?_
            refine SQ.ret1 (t := 10) (v := .bool false) (.inr rfl) (by kernel_rfl) (by kernel_rfl) ?_
            refine ⟨_, rfl, ?_, M20.bel⟩
            rw [once_far20 ‹0 < rm› ‹0 < sm›, ui, vi, hu, hv, Option.some.injEq, Imp.mk.injEq]
            exact no_iff (by rintro ⟨q1, q2, q3⟩; exact ‹¬ _› ‹_›)
        · skip
          have ph23 : ¬ (un = vn) := of_decide_eq_false h23
          refine SU.bool (d := 51) (x := (un.toList == vn.toList)) (z := false) ((str_beq _ _).trans h23) (fun y hy => by kernel_rfl) ?_
          refine SU.pick (d := 52) (v := .bool false) (by kernel_rfl) ?_
          refine SU.run (d := 53) (v := .bool false) (fun y hy => by kernel_rfl) ?_
          refine SU.offs [35, 36, 37, 38, 39, 40, 41, 42, 43, 44, 45, 46, 47, 48, 49, 50, 51] (qs := [52, 53]) rfl (by kernel_rfl) ?_
          refine SU.pick (d := 71) (v := .bool false) (by kernel_rfl) ?_
          refine SU.run (d := 10) (v := .bool false) (fun y hy => by kernel_rfl) ?_
          refine SU.done ?_
          refine SC.next ?_
          refine SC.keep (l' := [(4, .slice ta m tc), (6, .pointer (some ⟨g5, 0, none⟩)), (8, .pointer (some ⟨g13, 0, none⟩)), (10, .bool false)]) [4, 6, 8, 10] (by kernel_rfl) ?_
          refine SC.ret (by kernel_rfl) ?_
          refine SQ.seqExit (by nofun) ?_
          refine SQ.ret1 (t := 10) (v := .bool false) (.inr rfl) (by kernel_rfl) (by kernel_rfl) ?_
          refine ⟨_, rfl, ?_, M20.bel⟩
          rw [once_far20 ‹0 < rm› ‹0 < sm›, ui, vi, hu, hv, Option.some.injEq, Imp.mk.injEq]
          exact no_iff (by rintro ⟨q1, q2, q3⟩; exact ‹¬ _› ‹_›)
      · skip
        have ph22 : ¬ (ri = si) := of_decide_eq_false h22
        refine SU.bool (d := 32) (x := (ri == si)) (z := false) ((int_beq _ _).trans h22) (fun y hy => by kernel_rfl) ?_
        refine SU.pick (d := 33) (v := .bool false) (by kernel_rfl) ?_
        refine SU.run (d := 34) (v := .bool false) (fun y hy => by kernel_rfl) ?_
        refine SU.offs [16, 17, 18, 19, 20, 21, 22, 23, 24, 25, 26, 27, 28, 29, 30, 31, 32] (qs := [33, 34, 35, 36, 37, 38, 39, 40, 41, 42, 43, 44, 45, 46, 47, 48, 49, 50, 51, 52, 53]) rfl (by kernel_rfl) ?_
        refine SU.pick (d := 52) (v := .bool false) (by kernel_rfl) ?_
        refine SU.run (d := 53) (v := .bool false) (fun y hy => by kernel_rfl) ?_
        refine SU.offs [35, 36, 37, 38, 39, 40, 41, 42, 43, 44, 45, 46, 47, 48, 49, 50, 51] (qs := [52, 53]) rfl (by kernel_rfl) ?_
        refine SU.pick (d := 71) (v := .bool false) (by kernel_rfl) ?_
        refine SU.run (d := 10) (v := .bool false) (fun y hy => by kernel_rfl) ?_
        refine SU.done ?_
        refine SC.next ?_
        refine SC.keep (l' := [(4, .slice ta m tc), (6, .pointer (some ⟨g5, 0, none⟩)), (8, .pointer (some ⟨g13, 0, none⟩)), (10, .bool false)]) [4, 6, 8, 10] (by kernel_rfl) ?_
        refine SC.ret (by kernel_rfl) ?_
        refine SQ.seqExit (by nofun) ?_
        refine SQ.ret1 (t := 10) (v := .bool false) (.inr rfl) (by kernel_rfl) (by kernel_rfl) ?_
        refine ⟨_, rfl, ?_, M20.bel⟩
        rw [once_far20 ‹0 < rm› ‹0 < sm›, ui, vi, hu, hv, Option.some.injEq, Imp.mk.injEq]
        exact no_iff (by rintro ⟨q1, q2, q3⟩; exact ‹¬ _› ‹_›)
    · skip
      have ph21 : ¬ ((0 : Int) < sm) := of_decide_eq_false h21
      refine SU.bool (d := 25) (x := (decide ((0 : Int) < sm))) (z := false) h21 (fun y hy => by kernel_rfl) ?_
      refine SU.pick (d := 26) (v := .bool false) (by kernel_rfl) ?_
      refine SU.run (d := 27) (v := .bool false) (fun y hy => by kernel_rfl) ?_
      refine SU.offs [9, 10, 11, 12, 13] (qs := [14, 15, 16, 17, 18, 19, 20, 21, 22, 23, 24, 25, 26, 27, 28, 29, 30, 31, 32, 33, 34, 35, 36, 37, 38, 39, 40, 41, 42, 43, 44, 45, 46, 47, 48, 49, 50, 51, 52, 53]) rfl (by kernel_rfl) ?_
      refine SU.pick (d := 33) (v := .bool false) (by kernel_rfl) ?_
      refine SU.run (d := 34) (v := .bool false) (fun y hy => by kernel_rfl) ?_
      refine SU.offs [16, 17, 18, 19, 20, 21, 22, 23, 24, 25, 26, 27, 28, 29, 30, 31, 32] (qs := [33, 34, 35, 36, 37, 38, 39, 40, 41, 42, 43, 44, 45, 46, 47, 48, 49, 50, 51, 52, 53]) rfl (by kernel_rfl) ?_
      refine SU.pick (d := 52) (v := .bool false) (by kernel_rfl) ?_
      refine SU.run (d := 53) (v := .bool false) (fun y hy => by kernel_rfl) ?_
      refine SU.offs [35, 36, 37, 38, 39, 40, 41, 42, 43, 44, 45, 46, 47, 48, 49, 50, 51] (qs := [52, 53]) rfl (by kernel_rfl) ?_
      refine SU.pick (d := 71) (v := .bool false) (by kernel_rfl) ?_
      refine SU.run (d := 10) (v := .bool false) (fun y hy => by kernel_rfl) ?_
      refine SU.done ?_
      refine SC.next ?_
      refine SC.keep (l' := [(4, .slice ta m tc), (6, .pointer (some ⟨g5, 0, none⟩)), (8, .pointer (some ⟨g13, 0, none⟩)), (10, .bool false)]) [4, 6, 8, 10] (by kernel_rfl) ?_
      refine SC.ret (by kernel_rfl) ?_
      refine SQ.seqExit (by nofun) ?_
      refine SQ.ret1 (t := 10) (v := .bool false) (.inr rfl) (by kernel_rfl) (by kernel_rfl) ?_
      refine ⟨_, rfl, ?_, M20.bel⟩
      exact no_iff (once_part (by dsimp only; omega))
  · skip
    have ph17 : ¬ ((0 : Int) < rm) := of_decide_eq_false h17
    refine SL.bool (d := 13) (x := (decide ((0 : Int) < rm))) (y := false) h17 (by kernel_rfl) ?_
    refine SL.run (d := 14) (v := .bool false) (by kernel_rfl) ?_
    refine SL.run (d := 15) (v := .pointer (some ⟨g13, 0, none⟩)) (by kernel_rfl) ?_
    refine SL.load (d := 16) (t := 3) (a := .pointer (some ⟨g13, 0, none⟩)) (v := .int .i64 sm) (by kernel_rfl) (M16.ldCell 0 rfl (j := 0) (v := .int .i64 sm) rfl Try.underlying3 rfl) ?_
    rcases Bool.eq_false_or_eq_true (decide ((0 : Int) < sm)) with h25 | h25
    · skip
      have ph25 : (0 : Int) < sm := of_decide_eq_true h25
      obtain ⟨vb, vo, ⟨vn, vk⟩, rfl, hvb, hv, _, hvc⟩ := Rows.elem (hy.imps : Rows impD w ⟨ya1, yc1, yl1⟩) (i := (sm - 1).toNat) (by omega)
      refine SL.bool (d := 17) (x := (decide ((0 : Int) < sm))) (y := true) h25 (by kernel_rfl) ?_
      refine SL.pick (d := 18) (v := .bool true) (by kernel_rfl) ?_
      refine SL.nil ?_
      refine SC.next ?_
      refine SC.yes (by kernel_rfl) ?_
      refine SC.seq (by kernel_rfl) ?_
      refine SC.mix [] [0, 1, 2, 3, 4, 5, 6, 7, 8, 9, 10, 11, 12, 13, 14, 15, 16, 17, 18, 19, 20, 21, 22, 23, 24, 25, 26, 27, 28, 29, 30, 31, 32, 33, 34, 35, 36, 37, 38, 39, 40, 41, 42, 43, 44, 45, 46, 47, 48, 49, 50, 51, 52, 53] (by kernel_rfl) (by kernel_rfl) (by kernel_rfl) (PanOk.seq (PanOk.seq PanOk.body)) ?_
      intro w26 hb27
      have M28 := M16.call hb27
      refine SM.last ?_
      refine SU.run (d := 19) (v := .pointer (some ⟨g5, 0, none⟩)) (fun y hy => by kernel_rfl) ?_
      refine SU.load (d := 20) (t := 3) (b := .pointer (some ⟨g5, 0, none⟩)) (v := .int .i64 rm) (by kernel_rfl) (fun y hy => ((M28.call hy).ldCell 2 rfl (j := 0) (v := .int .i64 rm) rfl Try.underlying3 rfl)) ?_
      refine SU.bool (d := 21) (x := (decide ((0 : Int) < rm))) (z := false) h17 (fun y hy => by kernel_rfl) ?_
      refine SU.run (d := 22) (v := .bool false) (fun y hy => by kernel_rfl) ?_
      refine SU.offs [4, 5, 6] (qs := [7, 8, 9, 10, 11, 12, 13, 14, 15, 16, 17, 18, 19, 20, 21, 22, 23, 24, 25, 26, 27, 28, 29, 30, 31, 32, 33, 34, 35, 36, 37, 38, 39, 40, 41, 42, 43, 44, 45, 46, 47, 48, 49, 50, 51, 52, 53]) rfl (by kernel_rfl) ?_
      refine SU.pick (d := 26) (v := .bool false) (by kernel_rfl) ?_
      refine SU.run (d := 27) (v := .bool false) (fun y hy => by kernel_rfl) ?_
      refine SU.offs [9, 10, 11, 12, 13] (qs := [14, 15, 16, 17, 18, 19, 20, 21, 22, 23, 24, 25, 26, 27, 28, 29, 30, 31, 32, 33, 34, 35, 36, 37, 38, 39, 40, 41, 42, 43, 44, 45, 46, 47, 48, 49, 50, 51, 52, 53]) rfl (by kernel_rfl) ?_
      refine SU.pick (d := 33) (v := .bool false) (by kernel_rfl) ?_
      refine SU.run (d := 34) (v := .bool false) (fun y hy => by kernel_rfl) ?_
      refine SU.offs [16, 17, 18, 19, 20, 21, 22, 23, 24, 25, 26, 27, 28, 29, 30, 31, 32] (qs := [33, 34, 35, 36, 37, 38, 39, 40, 41, 42, 43, 44, 45, 46, 47, 48, 49, 50, 51, 52, 53]) rfl (by kernel_rfl) ?_
      refine SU.pick (d := 52) (v := .bool false) (by kernel_rfl) ?_
      refine SU.run (d := 53) (v := .bool false) (fun y hy => by kernel_rfl) ?_
      refine SU.offs [35, 36, 37, 38, 39, 40, 41, 42, 43, 44, 45, 46, 47, 48, 49, 50, 51] (qs := [52, 53]) rfl (by kernel_rfl) ?_
      refine SU.pick (d := 71) (v := .bool false) (by kernel_rfl) ?_
      refine SU.run (d := 10) (v := .bool false) (fun y hy => by kernel_rfl) ?_
      refine SU.done ?_
      refine SC.next ?_
      refine SC.keep (l' := [(4, .slice ta m tc), (6, .pointer (some ⟨g5, 0, none⟩)), (8, .pointer (some ⟨g13, 0, none⟩)), (10, .bool false)]) [4, 6, 8, 10] (by kernel_rfl) ?_
      refine SC.ret (by kernel_rfl) ?_
      refine SQ.seqExit (by nofun) ?_
      refine SQ.ret1 (t := 10) (v := .bool false) (.inr rfl) (by kernel_rfl) (by kernel_rfl) ?_
      refine ⟨_, rfl, ?_, M28.bel⟩
      exact no_iff (once_part (by dsimp only; omega))
    · skip
      have ph25 : ¬ ((0 : Int) < sm) := of_decide_eq_false h25
      refine SL.bool (d := 17) (x := (decide ((0 : Int) < sm))) (y := false) h25 (by kernel_rfl) ?_
      refine SL.pick (d := 18) (v := .bool false) (by kernel_rfl) ?_
      refine SL.nil ?_
      refine SC.next ?_
      refine SC.no (by kernel_rfl) ?_
      refine SC.skip (by kernel_rfl) ?_
      refine SC.next ?_
      refine SC.keep (l' := [(4, .slice ta m tc), (6, .pointer (some ⟨g5, 0, none⟩)), (8, .pointer (some ⟨g13, 0, none⟩)), (10, .bool false)]) [4, 6, 8, 10] (by kernel_rfl) ?_
      refine SC.seq (by kernel_rfl) ?_
      refine SC.seq (by kernel_rfl) ?_
      refine SC.region [0, 1, 2, 3, 4, 5, 6, 7] (by kernel_rfl) (by kernel_rfl) ?_
      refine SL.run (d := 72) (v := .pointer (some ⟨g5, 1, none⟩)) (by kernel_rfl) ?_
      refine SL.load (d := 73) (t := 3) (a := .pointer (some ⟨g5, 1, none⟩)) (v := .int .i64 ri) (by kernel_rfl) (M16.ldCell 2 rfl (j := 1) (v := .int .i64 ri) rfl Try.underlying3 rfl) ?_
      rcases Bool.eq_false_or_eq_true (decide (ri < (16 : Int))) with h29 | h29
      · skip
        have ph29 : ri < (16 : Int) := of_decide_eq_true h29
        refine SL.bool (d := 74) (x := (decide (ri < (16 : Int)))) (y := true) h29 (by kernel_rfl) ?_
        refine SL.run (d := 75) (v := .bool true) (by kernel_rfl) ?_
        refine SL.offs [4, 5, 6] (is := [7]) rfl (by kernel_rfl) ?_
        refine SL.pick (d := 79) (v := .bool true) (by kernel_rfl) ?_
        refine SL.nil ?_
        refine SC.next ?_
        refine SC.yes (by kernel_rfl) ?_
        refine SC.seq (by kernel_rfl) ?_
        refine SC.region [0, 1, 2, 3, 4, 5] (by kernel_rfl) (by kernel_rfl) ?_
        refine SL.run (d := 80) (v := .pointer (some ⟨g5, 1, none⟩)) (by kernel_rfl) ?_
        refine SL.load (d := 81) (t := 3) (a := .pointer (some ⟨g5, 1, none⟩)) (v := .int .i64 ri) (by kernel_rfl) (M16.ldCell 2 rfl (j := 1) (v := .int .i64 ri) rfl Try.underlying3 rfl) ?_
        refine SL.run (d := 82) (v := .pointer (some ⟨g13, 1, none⟩)) (by kernel_rfl) ?_
        refine SL.load (d := 83) (t := 3) (a := .pointer (some ⟨g13, 1, none⟩)) (v := .int .i64 si) (by kernel_rfl) (M16.ldCell 0 rfl (j := 1) (v := .int .i64 si) rfl Try.underlying3 rfl) ?_
        rcases Bool.eq_false_or_eq_true (decide (ri = si)) with h30 | h30
        · skip
          have ph30 : ri = si := of_decide_eq_true h30
          refine SL.bool (d := 84) (x := (ri == si)) (y := true) ((int_beq _ _).trans h30) (by kernel_rfl) ?_
          refine SL.run (d := 10) (v := .bool true) (by kernel_rfl) ?_
          refine SL.nil ?_
          refine SC.next ?_
          refine SC.ret (by kernel_rfl) ?_
          refine SQ.seqExit (by nofun) ?_
          refine SQ.ret1 (t := 10) (v := .bool true) (.inr rfl) (by kernel_rfl) (by kernel_rfl) ?_
          refine ⟨_, rfl, ?_, M16.bel⟩
          rw [once_low (by dsimp only; omega) (by dsimp only; omega) (by dsimp only; omega)]
          exact yes_iff (by dsimp only; omega)
        · skip
          have ph30 : ¬ (ri = si) := of_decide_eq_false h30
          refine SL.bool (d := 84) (x := (ri == si)) (y := false) ((int_beq _ _).trans h30) (by kernel_rfl) ?_
          refine SL.run (d := 10) (v := .bool false) (by kernel_rfl) ?_
          refine SL.nil ?_
          refine SC.next ?_
          refine SC.ret (by kernel_rfl) ?_
          refine SQ.seqExit (by nofun) ?_
          refine SQ.ret1 (t := 10) (v := .bool false) (.inr rfl) (by kernel_rfl) (by kernel_rfl) ?_
          refine ⟨_, rfl, ?_, M16.bel⟩
          rw [once_low (by dsimp only; omega) (by dsimp only; omega) (by dsimp only; omega)]
          exact no_iff (by dsimp only; omega)
      · skip
        have ph29 : ¬ (ri < (16 : Int)) := of_decide_eq_false h29
        refine SL.bool (d := 74) (x := (decide (ri < (16 : Int)))) (y := false) h29 (by kernel_rfl) ?_
        refine SL.run (d := 75) (v := .bool false) (by kernel_rfl) ?_
        refine SL.run (d := 76) (v := .pointer (some ⟨g13, 1, none⟩)) (by kernel_rfl) ?_
        refine SL.load (d := 77) (t := 3) (a := .pointer (some ⟨g13, 1, none⟩)) (v := .int .i64 si) (by kernel_rfl) (M16.ldCell 0 rfl (j := 1) (v := .int .i64 si) rfl Try.underlying3 rfl) ?_
        rcases Bool.eq_false_or_eq_true (decide (si < (16 : Int))) with h31 | h31
        · skip
          have ph31 : si < (16 : Int) := of_decide_eq_true h31
          refine SL.bool (d := 78) (x := (decide (si < (16 : Int)))) (y := true) h31 (by kernel_rfl) ?_
          refine SL.pick (d := 79) (v := .bool true) (by kernel_rfl) ?_
          refine SL.nil ?_
          refine SC.next ?_
          refine SC.yes (by kernel_rfl) ?_
          refine SC.seq (by kernel_rfl) ?_
          refine SC.region [0, 1, 2, 3, 4, 5] (by kernel_rfl) (by kernel_rfl) ?_
          refine SL.run (d := 80) (v := .pointer (some ⟨g5, 1, none⟩)) (by kernel_rfl) ?_
          refine SL.load (d := 81) (t := 3) (a := .pointer (some ⟨g5, 1, none⟩)) (v := .int .i64 ri) (by kernel_rfl) (M16.ldCell 2 rfl (j := 1) (v := .int .i64 ri) rfl Try.underlying3 rfl) ?_
          refine SL.run (d := 82) (v := .pointer (some ⟨g13, 1, none⟩)) (by kernel_rfl) ?_
          refine SL.load (d := 83) (t := 3) (a := .pointer (some ⟨g13, 1, none⟩)) (v := .int .i64 si) (by kernel_rfl) (M16.ldCell 0 rfl (j := 1) (v := .int .i64 si) rfl Try.underlying3 rfl) ?_
          rcases Bool.eq_false_or_eq_true (decide (ri = si)) with h32 | h32
          · skip
            have ph32 : ri = si := of_decide_eq_true h32
            refine SL.bool (d := 84) (x := (ri == si)) (y := true) ((int_beq _ _).trans h32) (by kernel_rfl) ?_
            refine SL.run (d := 10) (v := .bool true) (by kernel_rfl) ?_
            refine SL.nil ?_
            refine SC.next ?_
            refine SC.ret (by kernel_rfl) ?_
            refine SQ.seqExit (by nofun) ?_
            refine SQ.ret1 (t := 10) (v := .bool true) (.inr rfl) (by kernel_rfl) (by kernel_rfl) ?_
            refine ⟨_, rfl, ?_, M16.bel⟩
            rw [once_low (by dsimp only; omega) (by dsimp only; omega) (by dsimp only; omega)]
            exact yes_iff (by dsimp only; omega)
          · skip
            have ph32 : ¬ (ri = si) := of_decide_eq_false h32
            refine SL.bool (d := 84) (x := (ri == si)) (y := false) ((int_beq _ _).trans h32) (by kernel_rfl) ?_
            refine SL.run (d := 10) (v := .bool false) (by kernel_rfl) ?_
            refine SL.nil ?_
            refine SC.next ?_
            refine SC.ret (by kernel_rfl) ?_
            refine SQ.seqExit (by nofun) ?_
            refine SQ.ret1 (t := 10) (v := .bool false) (.inr rfl) (by kernel_rfl) (by kernel_rfl) ?_
            refine ⟨_, rfl, ?_, M16.bel⟩
            rw [once_low (by dsimp only; omega) (by dsimp only; omega) (by dsimp only; omega)]
            exact no_iff (by dsimp only; omega)
        · skip
          have ph31 : ¬ (si < (16 : Int)) := of_decide_eq_false h31
          obtain ⟨tb, tbo, bi, oi, ci, rfl, htb, hc1, hbi, hc2⟩ := ht (ri - 16).toNat (si - 16).toNat (by omega) (by omega)
          have oc33 : ∀ (q : Nat) (v : Value), ([.slice (some ⟨bi, oi, none⟩) n ci] : List Value)[q]? = some v → w.cell? ⟨tb, tbo + ((ri - (16 : Int)).toNat) * 1 + q, none⟩ = some v := fun q v hv => one_cell hc1 hv
          have oc34 : ∀ (q : Nat) (v : Value), ([.bool (T (ri - 16).toNat (si - 16).toNat)] : List Value)[q]? = some v → w.cell? ⟨bi, oi + ((si - (16 : Int)).toNat) * 1 + q, none⟩ = some v := fun q v hv => one_cell hc2 hv
          refine SL.bool (d := 78) (x := (decide (si < (16 : Int)))) (y := false) h31 (by kernel_rfl) ?_
          refine SL.pick (d := 79) (v := .bool false) (by kernel_rfl) ?_
          refine SL.nil ?_
          refine SC.next ?_
          refine SC.no (by kernel_rfl) ?_
          refine SC.skip (by kernel_rfl) ?_
          refine SC.next ?_
          refine SC.seq (by kernel_rfl) ?_
          refine SC.mix [] [0, 1, 2, 3, 4, 5, 6, 7, 8, 9, 10, 11] (by kernel_rfl) (by kernel_rfl) (by kernel_rfl) (PanOk.seq PanOk.body) ?_
          intro w35 hb36
          have M37 := M16.call hb36
          refine SM.last ?_
          refine SU.run (d := 85) (v := .slice (some ⟨tb, tbo, none⟩) m tc) (fun y hy => by kernel_rfl) ?_
          refine SU.run (d := 86) (v := .pointer (some ⟨g5, 1, none⟩)) (fun y hy => by kernel_rfl) ?_
          refine SU.load (d := 87) (t := 3) (b := .pointer (some ⟨g5, 1, none⟩)) (v := .int .i64 ri) (by kernel_rfl) (fun y hy => ((M37.call hy).ldCell 2 rfl (j := 1) (v := .int .i64 ri) rfl Try.underlying3 rfl)) ?_
          refine SU.int (d := 88) (q := .i64) (x := IntKind.wrap .i64 (ri - (16 : Int))) (z := ri - (16 : Int)) (wr64 (by omega) (by omega) (by omega)) (fun y hy => by kernel_rfl) ?_
          refine SU.index (d := 89) (t := 67) (e := 95) (b := tb) (o := tbo) (len := m) (cap := tc) (sz := 1) (k := .i64) (m := ri - (16 : Int)) ((ri - (16 : Int)).toNat) (by kernel_rfl) Try.underlying67 (by kernel_rfl) (by omega) (by omega) ?_
          refine SU.load (d := 90) (t := 95) (b := .pointer (some ⟨tb, tbo + ((ri - (16 : Int)).toNat) * 1, none⟩)) (v := .slice (some ⟨bi, oi, none⟩) n ci) (by kernel_rfl) (fun y hy => (ld_one ((M37.call hy).old htb (oc33 0 _ rfl)) Try.underlying95 rfl)) ?_
          refine SU.run (d := 91) (v := .pointer (some ⟨g13, 1, none⟩)) (fun y hy => by kernel_rfl) ?_
          refine SU.load (d := 92) (t := 3) (b := .pointer (some ⟨g13, 1, none⟩)) (v := .int .i64 si) (by kernel_rfl) (fun y hy => ((M37.call hy).ldCell 0 rfl (j := 1) (v := .int .i64 si) rfl Try.underlying3 rfl)) ?_
          refine SU.int (d := 93) (q := .i64) (x := IntKind.wrap .i64 (si - (16 : Int))) (z := si - (16 : Int)) (wr64 (by omega) (by omega) (by omega)) (fun y hy => by kernel_rfl) ?_
          refine SU.index (d := 94) (t := 95) (e := 4) (b := bi) (o := oi) (len := n) (cap := ci) (sz := 1) (k := .i64) (m := si - (16 : Int)) ((si - (16 : Int)).toNat) (by kernel_rfl) Try.underlying95 (by kernel_rfl) (by omega) (by omega) ?_
          refine SU.load (d := 95) (t := 4) (b := .pointer (some ⟨bi, oi + ((si - (16 : Int)).toNat) * 1, none⟩)) (v := .bool (T (ri - 16).toNat (si - 16).toNat)) (by kernel_rfl) (fun y hy => (ld_one ((M37.call hy).old hbi (oc34 0 _ rfl)) Try.underlying4 rfl)) ?_
          refine SU.run (d := 10) (v := .bool (T (ri - 16).toNat (si - 16).toNat)) (fun y hy => by kernel_rfl) ?_
          refine SU.done ?_
          refine SC.next ?_
          refine SC.keep (l' := [(10, .bool (T (ri - 16).toNat (si - 16).toNat))]) [10] (by kernel_rfl) ?_
          refine SC.ret (by kernel_rfl) ?_
          refine SQ.ret1 (t := 10) (v := .bool (T (ri - 16).toNat (si - 16).toNat)) (.inr rfl) (by kernel_rfl) (by kernel_rfl) ?_
          refine ⟨_, rfl, ?_, M37.bel⟩
          rw [once_own20 (by dsimp only; omega) (by dsimp only; omega) (by dsimp only; omega) (by dsimp only; omega)]
def FtIn (t : FT) (ni m : Nat) : Prop := (t.form ≠ 2 → t.fields.l = [] ∧ RfIn t.base ni m) ∧ ∀ f ∈ t.fields.l, RfIn f.base ni m
theorem fields_to {a b : FD} {T : Nat → Nat → Prop} {fl gl : List Fld} {k : Nat} {f g : Fld} (hf : fl[k]? = some f) (hg : gl[k]? = some g) (h : ∀ (j : Nat) (f g : Fld), j < k → fl[j]? = some f → gl[j]? = some g → f.name = g.name ∧ f.off = g.off ∧ onceP a b T f.base g.base)
    (h' : f.name = g.name ∧ f.off = g.off ∧ onceP a b T f.base g.base) : ∀ (j : Nat) (f g : Fld), j < k + 1 → fl[j]? = some f → gl[j]? = some g → f.name = g.name ∧ f.off = g.off ∧ onceP a b T f.base g.base := fun j f2 g2 hj h1 h2 => by
  rcases Nat.lt_or_ge j k with h3 | h3
  · exact h j f2 g2 h3 h1 h2
  · obtain rfl : j = k := by omega
    rw [hf] at h1; rw [hg] at h2
    obtain rfl := Option.some.inj h1
    obtain rfl := Option.some.inj h2
    exact h'
theorem forms_not {a b : FD} {T : Nat → Nat → Prop} {u v : FT} {k : Nat} {f g : Fld} (hu : u.form ≠ 2 → u.fields.l = []) (hf : u.fields.l[k]? = some f) (hg : v.fields.l[k]? = some g) (h : ¬ (f.name = g.name ∧ f.off = g.off ∧ onceP a b T f.base g.base)) : ¬ formsP a b T u.d v.d := by
  rintro ⟨_, _, _, h4⟩
  unfold bodyP at h4
  by_cases h2 : u.d.form = 2
  · rw [if_pos h2] at h4
    exact h (h4.2 k f g hf hg)
  · have := hu h2
    rw [this] at hf; cases hf
theorem forms_len {a b : FD} {T : Nat → Nat → Prop} {u v : FT} (hu : u.form ≠ 2 → u.fields.l = []) (hv : v.form ≠ 2 → v.fields.l = []) (h : u.fields.l.length ≠ v.fields.l.length) : ¬ formsP a b T u.d v.d := by
  rintro ⟨h1, _, _, h4⟩
  unfold bodyP at h4
  by_cases h2 : u.d.form = 2
  · rw [if_pos h2] at h4
    exact h h4.1
  · have e1 := hu h2
    have e2 := hv (by rw [show v.form = u.form from h1.symm]; exact h2)
    rw [e1, e2] at h; exact h rfl
theorem forms_rec {a b : FD} {T : Nat → Nat → Prop} {u v : FT} (h1 : u.form = v.form) (h2 : u.len = v.len) (h3 : u.size = v.size) (h4 : u.form = 2) (h5 : u.fields.l.length = v.fields.l.length) {k : Nat} (hk : u.fields.l.length ≤ k)
    (h : ∀ (j : Nat) (f g : Fld), j < k → u.fields.l[j]? = some f → v.fields.l[j]? = some g → f.name = g.name ∧ f.off = g.off ∧ onceP a b T f.base g.base) : formsP a b T u.d v.d := by
  refine ⟨h1, h2, h3, ?_⟩
  unfold bodyP
  rw [if_pos (show u.d.form = 2 from h4)]
  exact ⟨h5, fun j f g hf hg => h j f g (Nat.lt_of_lt_of_le (List.getElem?_eq_some_iff.1 hf).1 hk) hf hg⟩
theorem forms_base {a b : FD} {T : Nat → Nat → Prop} {u v : FT} (h1 : u.form = v.form) (h2 : u.len = v.len) (h3 : u.size = v.size) (h4 : ¬ u.form = 2) : formsP a b T u.d v.d ↔ onceP a b T u.base v.base := by
  unfold formsP bodyP
  rw [if_neg (show ¬ u.d.form = 2 from h4)]
  exact ⟨fun h => h.2.2.2, fun h => ⟨h1, h2, h3, h⟩⟩
theorem ref_eta (r : Rf) : (⟨r.mod, r.idx⟩ : Rf) = r := rfl

theorem rforms_walk (x y : Fc) (u v : FT) (ta : Option Addr) (m tc n : Nat) (T : Nat → Nat → Bool) (w : World) (hx : x.Rd w) (hy : y.Rd w) (hu : ftD.ok w u) (hv : ftD.ok w v) (iu : FtIn u x.imps.l.length m) (iv : FtIn v y.imps.l.length n) (ht : TbRd w ta m n T) :
    Calls Try.prog 47 #[x.val, .agg u.cells.toArray, y.val, .agg v.cells.toArray, .slice ta m tc] w fun e w' => ∃ R : Bool, e = .returned (.bool R) ∧ (R = true ↔ formsP x.d y.d (fun i k => T i k = true) u.d v.d) ∧ Below w.heap.size w w' := by
  obtain ⟨⟨hu1, hu2⟩, ⟨hu3, hu4⟩, ⟨hu5, hu6⟩, ⟨⟨hu7, hu8⟩, hu9, hu10⟩, hu11⟩ := hu
  obtain ⟨⟨hv1, hv2⟩, ⟨hv3, hv4⟩, ⟨hv5, hv6⟩, ⟨⟨hv7, hv8⟩, hv9, hv10⟩, hv11⟩ := hv
  have HF : u.form ≠ 2 → u.fields.l = [] := fun h => (iu.1 h).1
  have HG : v.form ≠ 2 → v.fields.l = [] := fun h => (iv.1 h).1
  have hl1 := hu11.len
  have hl2 := hv11.len
  obtain ⟨D, hD⟩ : ∃ D : Prop, D = formsP x.d y.d (fun i k => T i k = true) u.d v.d := ⟨_, rfl⟩
  rw [← hD]
  obtain ⟨uf, ul, us, ⟨um, ui⟩, ⟨ufa, ufc, ufl⟩⟩ := u
  obtain ⟨vf, vl, vs, ⟨vm, vi⟩, ⟨vfa, vfc, vfl⟩⟩ := v
  obtain ⟨xn, ⟨xa1, xc1, xl1⟩, ⟨xa2, xc2, xl2⟩, ⟨xa3, xc3, xl3⟩⟩ := x
  obtain ⟨yn, ⟨ya1, yc1, yl1⟩, ⟨ya2, yc2, yl2⟩, ⟨ya3, yc3, yl3⟩⟩ := y
  dsimp only at hu1 hu2 hu3 hu4 hu5 hu6 hu7 hu8 hu9 hu10 hu11 hv1 hv2 hv3 hv4 hv5 hv6 hv7 hv8 hv9 hv10 hv11 hl1 hl2
  refine SC.enter (vs := [.agg #[.string xn, .slice xa1 xl1.length xc1, .slice xa2 xl2.length xc2, .slice xa3 xl3.length xc3], .agg #[.int .i64 uf, .int .i64 ul, .int .i64 us, .int .i64 um, .int .i64 ui, .slice ufa ufl.length ufc], .agg #[.string yn, .slice ya1 yl1.length yc1, .slice ya2 yl2.length yc2, .slice ya3 yl3.length yc3], .agg #[.int .i64 vf, .int .i64 vl, .int .i64 vs, .int .i64 vm, .int .i64 vi, .slice vfa vfl.length vfc], .slice ta m tc]) (n := 95) (l := [(0, .agg #[.string xn, .slice xa1 xl1.length xc1, .slice xa2 xl2.length xc2, .slice xa3 xl3.length xc3]), (1, .agg #[.int .i64 uf, .int .i64 ul, .int .i64 us, .int .i64 um, .int .i64 ui, .slice ufa ufl.length ufc]), (2, .agg #[.string yn, .slice ya1 yl1.length yc1, .slice ya2 yl2.length yc2, .slice ya3 yl3.length yc3]), (3, .agg #[.int .i64 vf, .int .i64 vl, .int .i64 vs, .int .i64 vm, .int .i64 vi, .slice vfa vfl.length vfc]), (4, .slice ta m tc)]) Try.func47 (by kernel_rfl) (by kernel_rfl) (by kernel_rfl) (by kernel_rfl) ?_
  have M0 := Mem.start w
  refine SC.seq (by kernel_rfl) ?_
  refine SC.region [0, 1, 2, 3, 4] (by kernel_rfl) (by kernel_rfl) ?_
  refine SL.boxM (d := 5) (t := 26) (v := .agg #[.string xn, .slice xa1 xl1.length xc1, .slice xa2 xl2.length xc2, .slice xa3 xl3.length xc3]) (cs := #[.string xn, .slice xa1 xl1.length xc1, .slice xa2 xl2.length xc2, .slice xa3 xl3.length xc3]) M0 (by kernel_rfl) rfl ?_
  intro g1 w2 hb3 ⟨bg1, lg1⟩ M4
  refine SL.boxM (d := 6) (t := 53) (v := .agg #[.int .i64 uf, .int .i64 ul, .int .i64 us, .int .i64 um, .int .i64 ui, .slice ufa ufl.length ufc]) (cs := #[.int .i64 uf, .int .i64 ul, .int .i64 us, .int .i64 um, .int .i64 ui, .slice ufa ufl.length ufc]) M4 (by kernel_rfl) rfl ?_
  intro g5 w6 hb7 ⟨bg5, lg5⟩ M8
  refine SL.boxM (d := 7) (t := 26) (v := .agg #[.string yn, .slice ya1 yl1.length yc1, .slice ya2 yl2.length yc2, .slice ya3 yl3.length yc3]) (cs := #[.string yn, .slice ya1 yl1.length yc1, .slice ya2 yl2.length yc2, .slice ya3 yl3.length yc3]) M8 (by kernel_rfl) rfl ?_
  intro g9 w10 hb11 ⟨bg9, lg9⟩ M12
  refine SL.boxM (d := 8) (t := 53) (v := .agg #[.int .i64 vf, .int .i64 vl, .int .i64 vs, .int .i64 vm, .int .i64 vi, .slice vfa vfl.length vfc]) (cs := #[.int .i64 vf, .int .i64 vl, .int .i64 vs, .int .i64 vm, .int .i64 vi, .slice vfa vfl.length vfc]) M12 (by kernel_rfl) rfl ?_
  intro g13 w14 hb15 ⟨bg13, lg13⟩ M16
  refine SL.run (d := 10) (v := .bool false) (by kernel_rfl) ?_
  refine SL.nil ?_
  refine SC.next ?_
  refine SC.seq (by kernel_rfl) ?_
  refine SC.seq (by kernel_rfl) ?_
  refine SC.region [0, 1, 2, 3, 4, 5, 6, 7, 8, 9, 10, 11, 12, 13, 14, 15, 16, 17, 18, 19, 20, 21, 22, 23, 24, 25, 26, 27] (by kernel_rfl) (by kernel_rfl) ?_
  refine SL.run (d := 14) (v := .pointer (some ⟨g5, 0, none⟩)) (by kernel_rfl) ?_
  refine SL.load (d := 15) (t := 50) (a := .pointer (some ⟨g5, 0, none⟩)) (v := .int .i64 uf) (by kernel_rfl) (M16.ldCell 2 rfl (j := 0) (v := .int .i64 uf) rfl Try.underlying50 rfl) ?_
  refine SL.run (d := 16) (v := .pointer (some ⟨g13, 0, none⟩)) (by kernel_rfl) ?_
  refine SL.load (d := 17) (t := 50) (a := .pointer (some ⟨g13, 0, none⟩)) (v := .int .i64 vf) (by kernel_rfl) (M16.ldCell 0 rfl (j := 0) (v := .int .i64 vf) rfl Try.underlying50 rfl) ?_
  rcases Bool.eq_false_or_eq_true (decide (uf = vf)) with h17 | h17
  · skip
    have ph17 : uf = vf := of_decide_eq_true h17
    refine SL.bool (d := 18) (x := (uf != vf)) (y := false) ((int_bne _ _).trans (by rw [h17]; rfl)) (by kernel_rfl) ?_
    refine SL.run (d := 19) (v := .bool false) (by kernel_rfl) ?_
    refine SL.run (d := 20) (v := .pointer (some ⟨g5, 1, none⟩)) (by kernel_rfl) ?_
    refine SL.load (d := 21) (t := 3) (a := .pointer (some ⟨g5, 1, none⟩)) (v := .int .i64 ul) (by kernel_rfl) (M16.ldCell 2 rfl (j := 1) (v := .int .i64 ul) rfl Try.underlying3 rfl) ?_
    refine SL.run (d := 22) (v := .pointer (some ⟨g13, 1, none⟩)) (by kernel_rfl) ?_
    refine SL.load (d := 23) (t := 3) (a := .pointer (some ⟨g13, 1, none⟩)) (v := .int .i64 vl) (by kernel_rfl) (M16.ldCell 0 rfl (j := 1) (v := .int .i64 vl) rfl Try.underlying3 rfl) ?_
    rcases Bool.eq_false_or_eq_true (decide (ul = vl)) with h18 | h18
    · skip
      have ph18 : ul = vl := of_decide_eq_true h18
      refine SL.bool (d := 24) (x := (ul != vl)) (y := false) ((int_bne _ _).trans (by rw [h18]; rfl)) (by kernel_rfl) ?_
      refine SL.pick (d := 25) (v := .bool false) (by kernel_rfl) ?_
      refine SL.run (d := 26) (v := .bool false) (by kernel_rfl) ?_
      refine SL.run (d := 27) (v := .pointer (some ⟨g5, 2, none⟩)) (by kernel_rfl) ?_
      refine SL.load (d := 28) (t := 3) (a := .pointer (some ⟨g5, 2, none⟩)) (v := .int .i64 us) (by kernel_rfl) (M16.ldCell 2 rfl (j := 2) (v := .int .i64 us) rfl Try.underlying3 rfl) ?_
      refine SL.run (d := 29) (v := .pointer (some ⟨g13, 2, none⟩)) (by kernel_rfl) ?_
      refine SL.load (d := 30) (t := 3) (a := .pointer (some ⟨g13, 2, none⟩)) (v := .int .i64 vs) (by kernel_rfl) (M16.ldCell 0 rfl (j := 2) (v := .int .i64 vs) rfl Try.underlying3 rfl) ?_
      rcases Bool.eq_false_or_eq_true (decide (us = vs)) with h19 | h19
      · skip
        have ph19 : us = vs := of_decide_eq_true h19
        refine SL.bool (d := 31) (x := (us != vs)) (y := false) ((int_bne _ _).trans (by rw [h19]; rfl)) (by kernel_rfl) ?_
        refine SL.pick (d := 32) (v := .bool false) (by kernel_rfl) ?_
        refine SL.run (d := 33) (v := .bool false) (by kernel_rfl) ?_
        refine SL.run (d := 34) (v := .pointer (some ⟨g5, 5, none⟩)) (by kernel_rfl) ?_
        refine SL.load (d := 35) (t := 51) (a := .pointer (some ⟨g5, 5, none⟩)) (v := .slice ufa ufl.length ufc) (by kernel_rfl) (M16.ldCell 2 rfl (j := 5) (v := .slice ufa ufl.length ufc) rfl Try.underlying51 rfl) ?_
        refine SL.builtin (d := 36) (b := .len) (ts := [51]) (ty := 3) (vs := [.slice ufa ufl.length ufc]) (v := .int .i64 ((ufl.length : Nat) : Int)) (by kernel_rfl) (fun k => run_len Try.underlying51 rfl k) ?_
        refine SL.run (d := 37) (v := .pointer (some ⟨g13, 5, none⟩)) (by kernel_rfl) ?_
        refine SL.load (d := 38) (t := 51) (a := .pointer (some ⟨g13, 5, none⟩)) (v := .slice vfa vfl.length vfc) (by kernel_rfl) (M16.ldCell 0 rfl (j := 5) (v := .slice vfa vfl.length vfc) rfl Try.underlying51 rfl) ?_
        refine SL.builtin (d := 39) (b := .len) (ts := [51]) (ty := 3) (vs := [.slice vfa vfl.length vfc]) (v := .int .i64 ((vfl.length : Nat) : Int)) (by kernel_rfl) (fun k => run_len Try.underlying51 rfl k) ?_
        rcases Bool.eq_false_or_eq_true (decide (((ufl.length : Nat) : Int) = ((vfl.length : Nat) : Int))) with h20 | h20
        · skip
          have ph20 : ((ufl.length : Nat) : Int) = ((vfl.length : Nat) : Int) := of_decide_eq_true h20
          refine SL.bool (d := 40) (x := (((ufl.length : Nat) : Int) != ((vfl.length : Nat) : Int))) (y := false) ((int_bne _ _).trans (by rw [h20]; rfl)) (by kernel_rfl) ?_
          refine SL.pick (d := 41) (v := .bool false) (by kernel_rfl) ?_
          refine SL.nil ?_
          refine SC.next ?_
          refine SC.keep (l' := [(4, .slice ta m tc), (5, .pointer (some ⟨g1, 0, none⟩)), (6, .pointer (some ⟨g5, 0, none⟩)), (7, .pointer (some ⟨g9, 0, none⟩)), (8, .pointer (some ⟨g13, 0, none⟩)), (10, .bool false), (41, .bool false)]) [4, 5, 6, 7, 8, 10, 41] (by kernel_rfl) ?_
          refine SC.no (by kernel_rfl) ?_
          refine SC.skip (by kernel_rfl) ?_
          refine SC.next ?_
          refine SC.seq (by kernel_rfl) ?_
          refine SC.seq (by kernel_rfl) ?_
          refine SC.region [0] (by kernel_rfl) (by kernel_rfl) ?_
          refine SL.run (d := 11) (v := .int .i64 0) (by kernel_rfl) ?_
          refine SL.nil ?_
          refine SC.next ?_
          refine SC.block (i := 0) (by kernel_rfl) ?_
          have hle : ((ufl.length : Nat) : Int) = ((vfl.length : Nat) : Int) := ‹_›
          refine SC.loopA (X := Nat) (fun x => [(4, .slice ta m tc), (5, .pointer (some ⟨g1, 0, none⟩)), (6, .pointer (some ⟨g5, 0, none⟩)), (7, .pointer (some ⟨g9, 0, none⟩)), (8, .pointer (some ⟨g13, 0, none⟩)), (10, .bool false), (11, .int .i64 ((x : Nat) : Int))]) (fun x wr => Mem w wr ([bx g13 #[.int .i64 vf, .int .i64 vl, .int .i64 vs, .int .i64 vm, .int .i64 vi, .slice vfa vfl.length vfc] 53, bx g9 #[.string yn, .slice ya1 yl1.length yc1, .slice ya2 yl2.length yc2, .slice ya3 yl3.length yc3] 26, bx g5 #[.int .i64 uf, .int .i64 ul, .int .i64 us, .int .i64 um, .int .i64 ui, .slice ufa ufl.length ufc] 53, bx g1 #[.string xn, .slice xa1 xl1.length xc1, .slice xa2 xl2.length xc2, .slice xa3 xl3.length xc3] 26]) ∧ (x ≤ ufl.length ∧ ∀ (j : Nat) (f g : Fld), j < x → ufl[j]? = some f → vfl[j]? = some g → f.name = g.name ∧ f.off = g.off ∧ onceP (⟨xn, ⟨xa1, xc1, xl1⟩, ⟨xa2, xc2, xl2⟩, ⟨xa3, xc3, xl3⟩⟩ : Fc).d (⟨yn, ⟨ya1, yc1, yl1⟩, ⟨ya2, yc2, yl2⟩, ⟨ya3, yc3, yl3⟩⟩ : Fc).d (fun i x => T i x = true) f.base g.base)) (fun x => ufl.length - x) (PanOk.block (PanOk.seq PanOk.body)) (by kernel_rfl) 0 (by kernel_rfl) ⟨M16, ⟨Nat.zero_le _, fun j f g hj => absurd hj (Nat.not_lt_zero _)⟩⟩ ?_
          rintro k w26 ⟨M27, hI21⟩ Q22 ag23 ex24 pn25
          replace M27 : Mem w w26 ([bx g13 #[.int .i64 vf, .int .i64 vl, .int .i64 vs, .int .i64 vm, .int .i64 vi, .slice vfa vfl.length vfc] 53, bx g9 #[.string yn, .slice ya1 yl1.length yc1, .slice ya2 yl2.length yc2, .slice ya3 yl3.length yc3] 26, bx g5 #[.int .i64 uf, .int .i64 ul, .int .i64 us, .int .i64 um, .int .i64 ui, .slice ufa ufl.length ufc] 53, bx g1 #[.string xn, .slice xa1 xl1.length xc1, .slice xa2 xl2.length xc2, .slice xa3 xl3.length xc3] 26]) := M27
          replace hI21 : k ≤ ufl.length ∧ ∀ (j : Nat) (f g : Fld), j < k → ufl[j]? = some f → vfl[j]? = some g → f.name = g.name ∧ f.off = g.off ∧ onceP (⟨xn, ⟨xa1, xc1, xl1⟩, ⟨xa2, xc2, xl2⟩, ⟨xa3, xc3, xl3⟩⟩ : Fc).d (⟨yn, ⟨ya1, yc1, yl1⟩, ⟨ya2, yc2, yl2⟩, ⟨ya3, yc3, yl3⟩⟩ : Fc).d (fun i k => T i k = true) f.base g.base := hI21
          show SC _ _ _ _ _ [(4, .slice ta m tc), (5, .pointer (some ⟨g1, 0, none⟩)), (6, .pointer (some ⟨g5, 0, none⟩)), (7, .pointer (some ⟨g9, 0, none⟩)), (8, .pointer (some ⟨g13, 0, none⟩)), (10, .bool false), (11, .int .i64 ((k : Nat) : Int))] _
          obtain ⟨hk, hpre⟩ := hI21
          refine SC.seq (by kernel_rfl) ?_
          refine SC.seq (by kernel_rfl) ?_
          refine SC.region [0, 1, 2, 3, 4] (by kernel_rfl) (by kernel_rfl) ?_
          refine SL.run (d := 42) (v := .int .i64 ((k : Nat) : Int)) (by kernel_rfl) ?_
          refine SL.run (d := 43) (v := .pointer (some ⟨g5, 5, none⟩)) (by kernel_rfl) ?_
          refine SL.load (d := 44) (t := 51) (a := .pointer (some ⟨g5, 5, none⟩)) (v := .slice ufa ufl.length ufc) (by kernel_rfl) (M27.ldCell 2 rfl (j := 5) (v := .slice ufa ufl.length ufc) rfl Try.underlying51 rfl) ?_
          refine SL.builtin (d := 45) (b := .len) (ts := [51]) (ty := 3) (vs := [.slice ufa ufl.length ufc]) (v := .int .i64 ((ufl.length : Nat) : Int)) (by kernel_rfl) (fun k => run_len Try.underlying51 rfl k) ?_
          rcases Bool.eq_false_or_eq_true (decide (((k : Nat) : Int) < ((ufl.length : Nat) : Int))) with h28 | h28
          · skip
            have ph28 : ((k : Nat) : Int) < ((ufl.length : Nat) : Int) := of_decide_eq_true h28
            have hk2 : k < vfl.length := by omega
            obtain ⟨fb, fo, ⟨fn, foff, fm, fi⟩, rfl, hfb, hf, ⟨_, ⟨hfo1, hfo2⟩, ⟨hfm1, hfm2⟩, hfi1, hfi2⟩, hfc⟩ := Rows.elem (hu11 : Rows fldD w ⟨ufa, ufc, ufl⟩) (i := k) (by omega)
            obtain ⟨gb, go, ⟨gn, goff, gm, gi⟩, rfl, hgb, hg, ⟨_, ⟨hgo1, hgo2⟩, ⟨hgm1, hgm2⟩, hgi1, hgi2⟩, hgc⟩ := Rows.elem (hv11 : Rows fldD w ⟨vfa, vfc, vfl⟩) (i := k) (by omega)
            have iru := iu.2 _ (List.mem_of_getElem? hf)
            have irv := iv.2 _ (List.mem_of_getElem? hg)
            refine SL.bool (d := 46) (x := (decide (((k : Nat) : Int) < ((ufl.length : Nat) : Int)))) (y := true) h28 (by kernel_rfl) ?_
            refine SL.nil ?_
            refine SC.next ?_
            refine SC.yes (by kernel_rfl) ?_
            refine SC.skip (by kernel_rfl) ?_
            refine SC.next ?_
            refine SC.seq (by kernel_rfl) ?_
            refine SC.block (i := 1) (by kernel_rfl) ?_
            refine SC.seqJ (X := Nat × Nat) (fun x => [(4, .slice ta m tc), (5, .pointer (some ⟨g1, 0, none⟩)), (6, .pointer (some ⟨g5, 0, none⟩)), (7, .pointer (some ⟨g9, 0, none⟩)), (8, .pointer (some ⟨g13, 0, none⟩)), (10, .bool false), (11, .int .i64 ((k : Nat) : Int)), (12, .pointer (some ⟨x.1, 0, none⟩)), (13, .pointer (some ⟨x.2, 0, none⟩)), (42, .int .i64 ((k : Nat) : Int)), (43, .pointer (some ⟨g5, 5, none⟩)), (44, .slice (some ⟨fb, fo, none⟩) ufl.length ufc), (45, .int .i64 ((ufl.length : Nat) : Int)), (46, .bool true), (49, .pointer (some ⟨g5, 5, none⟩)), (50, .slice (some ⟨fb, fo, none⟩) ufl.length ufc), (51, .int .i64 ((k : Nat) : Int)), (52, .pointer (some ⟨fb, fo + k * 4, none⟩)), (53, .agg #[.string fn, .int .i64 foff, .int .i64 fm, .int .i64 fi]), (54, .pointer (some ⟨g13, 5, none⟩)), (55, .slice (some ⟨gb, go, none⟩) vfl.length vfc), (56, .int .i64 ((k : Nat) : Int)), (57, .pointer (some ⟨gb, go + k * 4, none⟩)), (58, .agg #[.string gn, .int .i64 goff, .int .i64 gm, .int .i64 gi])]) (fun x wr => Mem w wr ([bx x.2 #[.string gn, .int .i64 goff, .int .i64 gm, .int .i64 gi] 78, bx x.1 #[.string fn, .int .i64 foff, .int .i64 fm, .int .i64 fi] 78, bx g13 #[.int .i64 vf, .int .i64 vl, .int .i64 vs, .int .i64 vm, .int .i64 vi, .slice (some ⟨gb, go, none⟩) vfl.length vfc] 53, bx g9 #[.string yn, .slice ya1 yl1.length yc1, .slice ya2 yl2.length yc2, .slice ya3 yl3.length yc3] 26, bx g5 #[.int .i64 uf, .int .i64 ul, .int .i64 us, .int .i64 um, .int .i64 ui, .slice (some ⟨fb, fo, none⟩) ufl.length ufc] 53, bx g1 #[.string xn, .slice xa1 xl1.length xc1, .slice xa2 xl2.length xc2, .slice xa3 xl3.length xc3] 26]) ∧ (True)) (PanOk.block (PanOk.seq pn25)) (by kernel_rfl) ?_ ?_
            · skip
              rintro ⟨g33, g39⟩ w56 ⟨M57, hI55⟩
              replace M57 : Mem w w56 ([bx g39 #[.string gn, .int .i64 goff, .int .i64 gm, .int .i64 gi] 78, bx g33 #[.string fn, .int .i64 foff, .int .i64 fm, .int .i64 fi] 78, bx g13 #[.int .i64 vf, .int .i64 vl, .int .i64 vs, .int .i64 vm, .int .i64 vi, .slice (some ⟨gb, go, none⟩) vfl.length vfc] 53, bx g9 #[.string yn, .slice ya1 yl1.length yc1, .slice ya2 yl2.length yc2, .slice ya3 yl3.length yc3] 26, bx g5 #[.int .i64 uf, .int .i64 ul, .int .i64 us, .int .i64 um, .int .i64 ui, .slice (some ⟨fb, fo, none⟩) ufl.length ufc] 53, bx g1 #[.string xn, .slice xa1 xl1.length xc1, .slice xa2 xl2.length xc2, .slice xa3 xl3.length xc3] 26]) := M57
              replace hI55 : True := hI55
              show SC _ _ _ _ _ [(4, .slice ta m tc), (5, .pointer (some ⟨g1, 0, none⟩)), (6, .pointer (some ⟨g5, 0, none⟩)), (7, .pointer (some ⟨g9, 0, none⟩)), (8, .pointer (some ⟨g13, 0, none⟩)), (10, .bool false), (11, .int .i64 ((k : Nat) : Int)), (12, .pointer (some ⟨g33, 0, none⟩)), (13, .pointer (some ⟨g39, 0, none⟩)), (42, .int .i64 ((k : Nat) : Int)), (43, .pointer (some ⟨g5, 5, none⟩)), (44, .slice (some ⟨fb, fo, none⟩) ufl.length ufc), (45, .int .i64 ((ufl.length : Nat) : Int)), (46, .bool true), (49, .pointer (some ⟨g5, 5, none⟩)), (50, .slice (some ⟨fb, fo, none⟩) ufl.length ufc), (51, .int .i64 ((k : Nat) : Int)), (52, .pointer (some ⟨fb, fo + k * 4, none⟩)), (53, .agg #[.string fn, .int .i64 foff, .int .i64 fm, .int .i64 fi]), (54, .pointer (some ⟨g13, 5, none⟩)), (55, .slice (some ⟨gb, go, none⟩) vfl.length vfc), (56, .int .i64 ((k : Nat) : Int)), (57, .pointer (some ⟨gb, go + k * 4, none⟩)), (58, .agg #[.string gn, .int .i64 goff, .int .i64 gm, .int .i64 gi])] _
              refine SC.seq (by kernel_rfl) ?_
              refine SC.region [0, 1, 2, 3, 4, 5, 6, 7, 8, 9, 10, 11, 12, 13, 14, 15, 16, 17, 18, 19, 20, 21, 22] (by kernel_rfl) (by kernel_rfl) ?_
              refine SL.run (d := 59) (v := .pointer (some ⟨g33, 0, none⟩)) (by kernel_rfl) ?_
              refine SL.load (d := 60) (t := 9) (a := .pointer (some ⟨g33, 0, none⟩)) (v := .string fn) (by kernel_rfl) (M57.ldCell 1 rfl (j := 0) (v := .string fn) rfl Try.underlying9 rfl) ?_
              refine SL.run (d := 61) (v := .pointer (some ⟨g39, 0, none⟩)) (by kernel_rfl) ?_
              refine SL.load (d := 62) (t := 9) (a := .pointer (some ⟨g39, 0, none⟩)) (v := .string gn) (by kernel_rfl) (M57.ldCell 0 rfl (j := 0) (v := .string gn) rfl Try.underlying9 rfl) ?_
              rcases Bool.eq_false_or_eq_true (decide (fn = gn)) with h58 | h58
              · skip
                have ph58 : fn = gn := of_decide_eq_true h58
                refine SL.bool (d := 63) (x := (!(fn.toList == gn.toList))) (y := false) ((str_bne _ _).trans (by rw [h58]; rfl)) (by kernel_rfl) ?_
                refine SL.run (d := 64) (v := .bool false) (by kernel_rfl) ?_
                refine SL.run (d := 65) (v := .pointer (some ⟨g33, 1, none⟩)) (by kernel_rfl) ?_
                refine SL.load (d := 66) (t := 3) (a := .pointer (some ⟨g33, 1, none⟩)) (v := .int .i64 foff) (by kernel_rfl) (M57.ldCell 1 rfl (j := 1) (v := .int .i64 foff) rfl Try.underlying3 rfl) ?_
                refine SL.run (d := 67) (v := .pointer (some ⟨g39, 1, none⟩)) (by kernel_rfl) ?_
                refine SL.load (d := 68) (t := 3) (a := .pointer (some ⟨g39, 1, none⟩)) (v := .int .i64 goff) (by kernel_rfl) (M57.ldCell 0 rfl (j := 1) (v := .int .i64 goff) rfl Try.underlying3 rfl) ?_
                rcases Bool.eq_false_or_eq_true (decide (foff = goff)) with h59 | h59
                · skip
                  have ph59 : foff = goff := of_decide_eq_true h59
                  refine SL.bool (d := 69) (x := (foff != goff)) (y := false) ((int_bne _ _).trans (by rw [h59]; rfl)) (by kernel_rfl) ?_
                  refine SL.pick (d := 70) (v := .bool false) (by kernel_rfl) ?_
                  refine SL.run (d := 71) (v := .bool false) (by kernel_rfl) ?_
                  refine SL.load (d := 72) (t := 26) (a := .pointer (some ⟨g1, 0, none⟩)) (v := .agg #[.string xn, .slice xa1 xl1.length xc1, .slice xa2 xl2.length xc2, .slice xa3 xl3.length xc3]) (by kernel_rfl) (M57.ldBox 5 rfl Try.underlying26 rfl (by kernel_rfl)) ?_
                  refine SL.run (d := 73) (v := .pointer (some ⟨g33, 2, none⟩)) (by kernel_rfl) ?_
                  refine SL.load (d := 74) (t := 34) (a := .pointer (some ⟨g33, 2, none⟩)) (v := .agg #[.int .i64 fm, .int .i64 fi]) (by kernel_rfl) (M57.ldPart 1 rfl 2 (vs := [.int .i64 fm, .int .i64 fi]) rfl Try.underlying34 rfl (by kernel_rfl) rfl) ?_
                  refine SL.load (d := 75) (t := 26) (a := .pointer (some ⟨g9, 0, none⟩)) (v := .agg #[.string yn, .slice ya1 yl1.length yc1, .slice ya2 yl2.length yc2, .slice ya3 yl3.length yc3]) (by kernel_rfl) (M57.ldBox 3 rfl Try.underlying26 rfl (by kernel_rfl)) ?_
                  refine SL.run (d := 76) (v := .pointer (some ⟨g39, 2, none⟩)) (by kernel_rfl) ?_
                  refine SL.load (d := 77) (t := 34) (a := .pointer (some ⟨g39, 2, none⟩)) (v := .agg #[.int .i64 gm, .int .i64 gi]) (by kernel_rfl) (M57.ldPart 0 rfl 2 (vs := [.int .i64 gm, .int .i64 gi]) rfl Try.underlying34 rfl (by kernel_rfl) rfl) ?_
                  refine SL.run (d := 78) (v := .slice ta m tc) (by kernel_rfl) ?_
                  refine SL.call (d := 79) (f := 29) (vs := [.agg #[.string xn, .slice xa1 xl1.length xc1, .slice xa2 xl2.length xc2, .slice xa3 xl3.length xc3], .agg #[.int .i64 fm, .int .i64 fi], .agg #[.string yn, .slice ya1 yl1.length yc1, .slice ya2 yl2.length yc2, .slice ya3 yl3.length yc3], .agg #[.int .i64 gm, .int .i64 gi], .slice ta m tc]) (by kernel_rfl) (by kernel_rfl) (once_walk (x := ⟨xn, ⟨xa1, xc1, xl1⟩, ⟨xa2, xc2, xl2⟩, ⟨xa3, xc3, xl3⟩⟩) (y := ⟨yn, ⟨ya1, yc1, yl1⟩, ⟨ya2, yc2, yl2⟩, ⟨ya3, yc3, yl3⟩⟩) (rm := fm) (ri := fi) (sm := gm) (si := gi) (ta := ta) (m := m) (tc := tc) (n := n) (T := T) (w := w56) (hx.bel M57.bel) (hy.bel M57.bel) iru irv (ht.bel M57.bel)) ?_
                  rintro e w60 ⟨R63, rfl, hR64, hb61⟩
                  refine ⟨_, rfl, ?_⟩
                  have M62 := M57.call hb61
                  cases R63
                  · skip
                    have phR64 : ¬ (onceP (⟨xn, ⟨xa1, xc1, xl1⟩, ⟨xa2, xc2, xl2⟩, ⟨xa3, xc3, xl3⟩⟩ : Fc).d (⟨yn, ⟨ya1, yc1, yl1⟩, ⟨ya2, yc2, yl2⟩, ⟨ya3, yc3, yl3⟩⟩ : Fc).d (fun i k => T i k = true) ⟨fm, fi⟩ ⟨gm, gi⟩) := fun q => Bool.noConfusion (hR64.2 q)
                    refine SL.run (d := 80) (v := .bool true) (by kernel_rfl) ?_
                    refine SL.pick (d := 81) (v := .bool true) (by kernel_rfl) ?_
                    refine SL.nil ?_
                    refine SC.next ?_
                    refine SC.yes (by kernel_rfl) ?_
                    refine SC.seq (by kernel_rfl) ?_
                    refine SC.region [0] (by kernel_rfl) (by kernel_rfl) ?_
                    refine SL.run (d := 10) (v := .bool false) (by kernel_rfl) ?_
                    refine SL.nil ?_
                    refine SC.next ?_
                    refine SC.ret (by kernel_rfl) ?_
                    refine SQ.blockRet ?_
                    refine SQ.seqExit (by nofun) ?_
                    refine ex24 (by nofun) ?_
                    refine SQ.blockRet ?_
                    refine SQ.seqExit (by nofun) ?_
                    refine SQ.ret1 (t := 10) (v := .bool false) (.inr rfl) (by kernel_rfl) (by kernel_rfl) ?_
                    refine ⟨_, rfl, ?_, M62.bel⟩
                    rw [hD]
                    exact no_iff (forms_not HF hf hg (fun q => by have q1 := q.1; have q2 := q.2.1; have q3 := q.2.2; exact ‹¬ _› ‹_›))
                  · skip
                    have phR64 : onceP (⟨xn, ⟨xa1, xc1, xl1⟩, ⟨xa2, xc2, xl2⟩, ⟨xa3, xc3, xl3⟩⟩ : Fc).d (⟨yn, ⟨ya1, yc1, yl1⟩, ⟨ya2, yc2, yl2⟩, ⟨ya3, yc3, yl3⟩⟩ : Fc).d (fun i k => T i k = true) ⟨fm, fi⟩ ⟨gm, gi⟩ := hR64.1 rfl
                    refine SL.run (d := 80) (v := .bool false) (by kernel_rfl) ?_
                    refine SL.pick (d := 81) (v := .bool false) (by kernel_rfl) ?_
                    refine SL.nil ?_
                    refine SC.next ?_
                    refine SC.no (by kernel_rfl) ?_
                    refine SC.skip (by kernel_rfl) ?_
                    refine SQ.blockNormal ?_
                    refine SC.next ?_
                    refine SC.region [0, 1, 2] (by kernel_rfl) (by kernel_rfl) ?_
                    refine SL.run (d := 47) (v := .int .i64 ((k : Nat) : Int)) (by kernel_rfl) ?_
                    refine SL.int (d := 48) (q := .i64) (x := IntKind.wrap .i64 (((k : Nat) : Int) + (1 : Int))) (y := ((k + 1 : Nat) : Int)) (wr64 (by omega) (by omega) (by omega)) (by kernel_rfl) ?_
                    refine SL.run (d := 11) (v := .int .i64 ((k + 1 : Nat) : Int)) (by kernel_rfl) ?_
                    refine SL.nil ?_
                    have M65 := M62.keep [2, 3, 4, 5] rfl (L' := [bx g13 #[.int .i64 vf, .int .i64 vl, .int .i64 vs, .int .i64 vm, .int .i64 vi, .slice (some ⟨gb, go, none⟩) vfl.length vfc] 53, bx g9 #[.string yn, .slice ya1 yl1.length yc1, .slice ya2 yl2.length yc2, .slice ya3 yl3.length yc3] 26, bx g5 #[.int .i64 uf, .int .i64 ul, .int .i64 us, .int .i64 um, .int .i64 ui, .slice (some ⟨fb, fo, none⟩) ufl.length ufc] 53, bx g1 #[.string xn, .slice xa1 xl1.length xc1, .slice xa2 xl2.length xc2, .slice xa3 xl3.length xc3] 26]) rfl
                    exact ag23 (k + 1) (by kernel_rfl) ⟨M65, ⟨by omega, fields_to hf hg hpre ⟨‹_›, ‹_›, ‹_›⟩⟩⟩ (by first | omega | (dsimp only; omega))
                · skip
                  have ph59 : ¬ (foff = goff) := of_decide_eq_false h59
                  refine SL.bool (d := 69) (x := (foff != goff)) (y := true) ((int_bne _ _).trans (by rw [h59]; rfl)) (by kernel_rfl) ?_
                  refine SL.pick (d := 70) (v := .bool true) (by kernel_rfl) ?_
                  refine SL.run (d := 71) (v := .bool true) (by kernel_rfl) ?_
                  refine SL.offs [13, 14, 15, 16, 17, 18, 19, 20, 21] (is := [22]) rfl (by kernel_rfl) ?_
                  refine SL.pick (d := 81) (v := .bool true) (by kernel_rfl) ?_
                  refine SL.nil ?_
                  refine SC.next ?_
                  refine SC.yes (by kernel_rfl) ?_
                  refine SC.seq (by kernel_rfl) ?_
                  refine SC.region [0] (by kernel_rfl) (by kernel_rfl) ?_
                  refine SL.run (d := 10) (v := .bool false) (by kernel_rfl) ?_
                  refine SL.nil ?_
                  refine SC.next ?_
                  refine SC.ret (by kernel_rfl) ?_
                  refine SQ.blockRet ?_
                  refine SQ.seqExit (by nofun) ?_
                  refine ex24 (by nofun) ?_
                  refine SQ.blockRet ?_
                  refine SQ.seqExit (by nofun) ?_
                  refine SQ.ret1 (t := 10) (v := .bool false) (.inr rfl) (by kernel_rfl) (by kernel_rfl) ?_
                  refine ⟨_, rfl, ?_, M57.bel⟩
                  rw [hD]
                  exact no_iff (forms_not HF hf hg (fun q => by have q1 := q.1; have q2 := q.2.1; have q3 := q.2.2; exact ‹¬ _› ‹_›))
              · skip
                have ph58 : ¬ (fn = gn) := of_decide_eq_false h58
                refine SL.bool (d := 63) (x := (!(fn.toList == gn.toList))) (y := true) ((str_bne _ _).trans (by rw [h58]; rfl)) (by kernel_rfl) ?_
                refine SL.run (d := 64) (v := .bool true) (by kernel_rfl) ?_
                refine SL.offs [6, 7, 8, 9, 10] (is := [11, 12, 13, 14, 15, 16, 17, 18, 19, 20, 21, 22]) rfl (by kernel_rfl) ?_
                refine SL.pick (d := 70) (v := .bool true) (by kernel_rfl) ?_
                refine SL.run (d := 71) (v := .bool true) (by kernel_rfl) ?_
                refine SL.offs [13, 14, 15, 16, 17, 18, 19, 20, 21] (is := [22]) rfl (by kernel_rfl) ?_
                refine SL.pick (d := 81) (v := .bool true) (by kernel_rfl) ?_
                refine SL.nil ?_
                refine SC.next ?_
                refine SC.yes (by kernel_rfl) ?_
                refine SC.seq (by kernel_rfl) ?_
                refine SC.region [0] (by kernel_rfl) (by kernel_rfl) ?_
                refine SL.run (d := 10) (v := .bool false) (by kernel_rfl) ?_
                refine SL.nil ?_
                refine SC.next ?_
                refine SC.ret (by kernel_rfl) ?_
                refine SQ.blockRet ?_
                refine SQ.seqExit (by nofun) ?_
                refine ex24 (by nofun) ?_
                refine SQ.blockRet ?_
                refine SQ.seqExit (by nofun) ?_
                refine SQ.ret1 (t := 10) (v := .bool false) (.inr rfl) (by kernel_rfl) (by kernel_rfl) ?_
                refine ⟨_, rfl, ?_, M57.bel⟩
                rw [hD]
                exact no_iff (forms_not HF hf hg (fun q => by have q1 := q.1; have q2 := q.2.1; have q3 := q.2.2; exact ‹¬ _› ‹_›))
            · skip
              intro Q66 ag67 ex68 pn69
              refine SC.orders (fun wd => NewG wd) 14 (by kernel_rfl) (by kernel_rfl) (by kernel_rfl) ?_
              intro w70 hb71
              have M72 := M27.call hb71
              have acc73 : Ke (NewG w70) w70 w70 := Ke.refl _ _
              refine SR.step (r := 3) [0, 1, 2, 3, 4, 5, 6, 7, 8, 9] [10, 11] pn69 (by kernel_rfl) (by kernel_rfl) (by kernel_rfl) rfl (by kernel_rfl) ?_
              refine SU.run (d := 49) (v := .pointer (some ⟨g5, 5, none⟩)) (fun y hy => by kernel_rfl) ?_
              refine SU.load (d := 50) (t := 51) (b := .pointer (some ⟨g5, 5, none⟩)) (v := .slice (some ⟨fb, fo, none⟩) ufl.length ufc) (by kernel_rfl) (fun y hy => ((M72.call (NewG.bel (Ke.trans acc73 hy))).ldCell 2 rfl (j := 5) (v := .slice (some ⟨fb, fo, none⟩) ufl.length ufc) rfl Try.underlying51 rfl)) ?_
              refine SU.run (d := 51) (v := .int .i64 ((k : Nat) : Int)) (fun y hy => by kernel_rfl) ?_
              refine SU.index (d := 52) (t := 51) (e := 78) (b := fb) (o := fo) (len := ufl.length) (cap := ufc) (sz := 4) (k := .i64) (m := ((k : Nat) : Int)) k (by kernel_rfl) Try.underlying51 (by kernel_rfl) rfl (by omega) ?_
              refine SU.load (d := 53) (t := 78) (b := .pointer (some ⟨fb, fo + k * 4, none⟩)) (v := .agg #[.string fn, .int .i64 foff, .int .i64 fm, .int .i64 fi]) (by kernel_rfl) (fun y hy => (ld_mid (cs := [.string fn, .int .i64 foff, .int .i64 fm, .int .i64 fi]) (fun j v hv => (M72.call (NewG.bel (Ke.trans acc73 hy))).old hfb (hfc j v hv)) Try.underlying78 rfl (by kernel_rfl) rfl)) ?_
              refine SU.run (d := 54) (v := .pointer (some ⟨g13, 5, none⟩)) (fun y hy => by kernel_rfl) ?_
              refine SU.load (d := 55) (t := 51) (b := .pointer (some ⟨g13, 5, none⟩)) (v := .slice (some ⟨gb, go, none⟩) vfl.length vfc) (by kernel_rfl) (fun y hy => ((M72.call (NewG.bel (Ke.trans acc73 hy))).ldCell 0 rfl (j := 5) (v := .slice (some ⟨gb, go, none⟩) vfl.length vfc) rfl Try.underlying51 rfl)) ?_
              refine SU.run (d := 56) (v := .int .i64 ((k : Nat) : Int)) (fun y hy => by kernel_rfl) ?_
              refine SU.index (d := 57) (t := 51) (e := 78) (b := gb) (o := go) (len := vfl.length) (cap := vfc) (sz := 4) (k := .i64) (m := ((k : Nat) : Int)) k (by kernel_rfl) Try.underlying51 (by kernel_rfl) rfl (by omega) ?_
              refine SU.load (d := 58) (t := 78) (b := .pointer (some ⟨gb, go + k * 4, none⟩)) (v := .agg #[.string gn, .int .i64 goff, .int .i64 gm, .int .i64 gi]) (by kernel_rfl) (fun y hy => (ld_mid (cs := [.string gn, .int .i64 goff, .int .i64 gm, .int .i64 gi]) (fun j v hv => (M72.call (NewG.bel (Ke.trans acc73 hy))).old hgb (hgc j v hv)) Try.underlying78 rfl (by kernel_rfl) rfl)) ?_
              refine SU.each2 ?_ ?_
              · skip
                refine SL.allocM (d := 12) (t := 78) (z := .agg #[.string ⟨#[]⟩, .int .i64 0, .int .i64 0, .int .i64 0]) (cs := #[.string ⟨#[]⟩, .int .i64 0, .int .i64 0, .int .i64 0]) M72 (by kernel_rfl) (by kernel_rfl) rfl ?_
                intro g74 w75 hb76 ⟨bg74, lg74⟩ M77
                have ke78 : Ke (NewG w70) _ _ := Ke.below _ hb76
                have ng74 : w70.heap.size ≤ g74 := Nat.le_trans (Ke.size acc73) bg74
                have acc79 := Ke.trans acc73 ke78
                refine SL.nil ?_
                refine SR.back ke78 ?_
                refine SR.norm (ls' := [0, 1, 2, 3, 4, 5, 6, 7, 8, 9, 10]) rfl ?_
                refine SR.step (r := 2) [] [11] pn69 (by kernel_rfl) (by kernel_rfl) (by kernel_rfl) rfl (by kernel_rfl) ?_
                refine SU.each1 ?_
                refine SL.allocM (d := 13) (t := 78) (z := .agg #[.string ⟨#[]⟩, .int .i64 0, .int .i64 0, .int .i64 0]) (cs := #[.string ⟨#[]⟩, .int .i64 0, .int .i64 0, .int .i64 0]) M77 (by kernel_rfl) (by kernel_rfl) rfl ?_
                intro g80 w81 hb82 ⟨bg80, lg80⟩ M83
                have ke84 : Ke (NewG w70) _ _ := Ke.below _ hb82
                have ng80 : w70.heap.size ≤ g80 := Nat.le_trans (Ke.size acc79) bg80
                have acc85 := Ke.trans acc79 ke84
                refine SL.nil ?_
                refine SR.back ke84 ?_
                refine SR.norm (ls' := [0, 1, 2, 3, 4, 5, 6, 7, 8, 9, 10, 11]) rfl ?_
                refine SR.step (r := 1) [] [12] pn69 (by kernel_rfl) (by kernel_rfl) (by kernel_rfl) rfl (by kernel_rfl) ?_
                refine SU.each1 ?_
                refine SL.storeM (t := 78) (a := .pointer (some ⟨g74, 0, none⟩)) (v := .agg #[.string fn, .int .i64 foff, .int .i64 fm, .int .i64 fi]) (L' := [bx g80 #[.string ⟨#[]⟩, .int .i64 0, .int .i64 0, .int .i64 0] 78, bx g74 #[.string fn, .int .i64 foff, .int .i64 fm, .int .i64 fi] 78, bx g13 #[.int .i64 vf, .int .i64 vl, .int .i64 vs, .int .i64 vm, .int .i64 vi, .slice (some ⟨gb, go, none⟩) vfl.length vfc] 53, bx g9 #[.string yn, .slice ya1 yl1.length yc1, .slice ya2 yl2.length yc2, .slice ya3 yl3.length yc3] 26, bx g5 #[.int .i64 uf, .int .i64 ul, .int .i64 us, .int .i64 um, .int .i64 ui, .slice (some ⟨fb, fo, none⟩) ufl.length ufc] 53, bx g1 #[.string xn, .slice xa1 xl1.length xc1, .slice xa2 xl2.length xc2, .slice xa3 xl3.length xc3] 26]) (by kernel_rfl) (M83.stBox 1 rfl rfl (by kernel_rfl) rfl) ?_
                intro w86 M87 hk88 shk88
                have ke89 : Ke (NewG w70) _ _ := Ke.mono hk88 (fun i _ e => by subst e; exact ng74)
                have acc90 := Ke.trans acc85 ke89
                refine SL.nil ?_
                refine SR.back ke89 ?_
                refine SR.norm (ls' := [0, 1, 2, 3, 4, 5, 6, 7, 8, 9, 10, 11, 12]) rfl ?_
                refine SR.step (r := 0) [] [13] pn69 (by kernel_rfl) (by kernel_rfl) (by kernel_rfl) rfl (by kernel_rfl) ?_
                refine SU.each1 ?_
                refine SL.storeM (t := 78) (a := .pointer (some ⟨g80, 0, none⟩)) (v := .agg #[.string gn, .int .i64 goff, .int .i64 gm, .int .i64 gi]) (L' := [bx g80 #[.string gn, .int .i64 goff, .int .i64 gm, .int .i64 gi] 78, bx g74 #[.string fn, .int .i64 foff, .int .i64 fm, .int .i64 fi] 78, bx g13 #[.int .i64 vf, .int .i64 vl, .int .i64 vs, .int .i64 vm, .int .i64 vi, .slice (some ⟨gb, go, none⟩) vfl.length vfc] 53, bx g9 #[.string yn, .slice ya1 yl1.length yc1, .slice ya2 yl2.length yc2, .slice ya3 yl3.length yc3] 26, bx g5 #[.int .i64 uf, .int .i64 ul, .int .i64 us, .int .i64 um, .int .i64 ui, .slice (some ⟨fb, fo, none⟩) ufl.length ufc] 53, bx g1 #[.string xn, .slice xa1 xl1.length xc1, .slice xa2 xl2.length xc2, .slice xa3 xl3.length xc3] 26]) (by kernel_rfl) (M87.stBox 0 rfl rfl (by kernel_rfl) rfl) ?_
                intro w91 M92 hk93 shk93
                have ke94 : Ke (NewG w70) _ _ := Ke.mono hk93 (fun i _ e => by subst e; exact ng80)
                have acc95 := Ke.trans acc90 ke94
                refine SL.nil ?_
                refine SR.back ke94 ?_
                refine SR.norm (ls' := [0, 1, 2, 3, 4, 5, 6, 7, 8, 9, 10, 11, 12, 13]) rfl ?_
                refine SR.last [] pn69 (by kernel_rfl) (by kernel_rfl) (by kernel_rfl) (by kernel_rfl) ?_
                refine SU.done ?_
                exact ag67 ⟨g74, g80⟩ (by kernel_rfl) ⟨M92, trivial⟩
              · skip
                refine SL.allocM (d := 13) (t := 78) (z := .agg #[.string ⟨#[]⟩, .int .i64 0, .int .i64 0, .int .i64 0]) (cs := #[.string ⟨#[]⟩, .int .i64 0, .int .i64 0, .int .i64 0]) M72 (by kernel_rfl) (by kernel_rfl) rfl ?_
                intro g96 w97 hb98 ⟨bg96, lg96⟩ M99
                have ke100 : Ke (NewG w70) _ _ := Ke.below _ hb98
                have ng96 : w70.heap.size ≤ g96 := Nat.le_trans (Ke.size acc73) bg96
                have acc101 := Ke.trans acc73 ke100
                refine SL.nil ?_
                refine SR.back ke100 ?_
                refine SR.norm (ls' := [0, 1, 2, 3, 4, 5, 6, 7, 8, 9, 11]) rfl ?_
                refine SR.step (r := 2) [] [10] pn69 (by kernel_rfl) (by kernel_rfl) (by kernel_rfl) rfl (by kernel_rfl) ?_
                refine SU.each1 ?_
                refine SL.allocM (d := 12) (t := 78) (z := .agg #[.string ⟨#[]⟩, .int .i64 0, .int .i64 0, .int .i64 0]) (cs := #[.string ⟨#[]⟩, .int .i64 0, .int .i64 0, .int .i64 0]) M99 (by kernel_rfl) (by kernel_rfl) rfl ?_
                intro g102 w103 hb104 ⟨bg102, lg102⟩ M105
                have ke106 : Ke (NewG w70) _ _ := Ke.below _ hb104
                have ng102 : w70.heap.size ≤ g102 := Nat.le_trans (Ke.size acc101) bg102
                have acc107 := Ke.trans acc101 ke106
                refine SL.nil ?_
                refine SR.back ke106 ?_
                refine SR.norm (ls' := [0, 1, 2, 3, 4, 5, 6, 7, 8, 9, 11, 10]) rfl ?_
                refine SR.step (r := 1) [] [12] pn69 (by kernel_rfl) (by kernel_rfl) (by kernel_rfl) rfl (by kernel_rfl) ?_
                refine SU.each1 ?_
                refine SL.storeM (t := 78) (a := .pointer (some ⟨g102, 0, none⟩)) (v := .agg #[.string fn, .int .i64 foff, .int .i64 fm, .int .i64 fi]) (L' := [bx g102 #[.string fn, .int .i64 foff, .int .i64 fm, .int .i64 fi] 78, bx g96 #[.string ⟨#[]⟩, .int .i64 0, .int .i64 0, .int .i64 0] 78, bx g13 #[.int .i64 vf, .int .i64 vl, .int .i64 vs, .int .i64 vm, .int .i64 vi, .slice (some ⟨gb, go, none⟩) vfl.length vfc] 53, bx g9 #[.string yn, .slice ya1 yl1.length yc1, .slice ya2 yl2.length yc2, .slice ya3 yl3.length yc3] 26, bx g5 #[.int .i64 uf, .int .i64 ul, .int .i64 us, .int .i64 um, .int .i64 ui, .slice (some ⟨fb, fo, none⟩) ufl.length ufc] 53, bx g1 #[.string xn, .slice xa1 xl1.length xc1, .slice xa2 xl2.length xc2, .slice xa3 xl3.length xc3] 26]) (by kernel_rfl) (M105.stBox 0 rfl rfl (by kernel_rfl) rfl) ?_
                intro w108 M109 hk110 shk110
                have ke111 : Ke (NewG w70) _ _ := Ke.mono hk110 (fun i _ e => by subst e; exact ng102)
                have acc112 := Ke.trans acc107 ke111
                refine SL.nil ?_
                refine SR.back ke111 ?_
                refine SR.norm (ls' := [0, 1, 2, 3, 4, 5, 6, 7, 8, 9, 11, 10, 12]) rfl ?_
                refine SR.step (r := 0) [] [13] pn69 (by kernel_rfl) (by kernel_rfl) (by kernel_rfl) rfl (by kernel_rfl) ?_
                refine SU.each1 ?_
                refine SL.storeM (t := 78) (a := .pointer (some ⟨g96, 0, none⟩)) (v := .agg #[.string gn, .int .i64 goff, .int .i64 gm, .int .i64 gi]) (L' := [bx g102 #[.string fn, .int .i64 foff, .int .i64 fm, .int .i64 fi] 78, bx g96 #[.string gn, .int .i64 goff, .int .i64 gm, .int .i64 gi] 78, bx g13 #[.int .i64 vf, .int .i64 vl, .int .i64 vs, .int .i64 vm, .int .i64 vi, .slice (some ⟨gb, go, none⟩) vfl.length vfc] 53, bx g9 #[.string yn, .slice ya1 yl1.length yc1, .slice ya2 yl2.length yc2, .slice ya3 yl3.length yc3] 26, bx g5 #[.int .i64 uf, .int .i64 ul, .int .i64 us, .int .i64 um, .int .i64 ui, .slice (some ⟨fb, fo, none⟩) ufl.length ufc] 53, bx g1 #[.string xn, .slice xa1 xl1.length xc1, .slice xa2 xl2.length xc2, .slice xa3 xl3.length xc3] 26]) (by kernel_rfl) (M109.stBox 1 rfl rfl (by kernel_rfl) rfl) ?_
                intro w113 M114 hk115 shk115
                have ke116 : Ke (NewG w70) _ _ := Ke.mono hk115 (fun i _ e => by subst e; exact ng96)
                have acc117 := Ke.trans acc112 ke116
                refine SL.nil ?_
                refine SR.back ke116 ?_
                refine SR.norm (ls' := [0, 1, 2, 3, 4, 5, 6, 7, 8, 9, 11, 10, 12, 13]) rfl ?_
                refine SR.last [] pn69 (by kernel_rfl) (by kernel_rfl) (by kernel_rfl) (by kernel_rfl) ?_
                refine SU.done ?_
                have M118 := M114.keep [1, 0, 2, 3, 4, 5] rfl (L' := [bx g96 #[.string gn, .int .i64 goff, .int .i64 gm, .int .i64 gi] 78, bx g102 #[.string fn, .int .i64 foff, .int .i64 fm, .int .i64 fi] 78, bx g13 #[.int .i64 vf, .int .i64 vl, .int .i64 vs, .int .i64 vm, .int .i64 vi, .slice (some ⟨gb, go, none⟩) vfl.length vfc] 53, bx g9 #[.string yn, .slice ya1 yl1.length yc1, .slice ya2 yl2.length yc2, .slice ya3 yl3.length yc3] 26, bx g5 #[.int .i64 uf, .int .i64 ul, .int .i64 us, .int .i64 um, .int .i64 ui, .slice (some ⟨fb, fo, none⟩) ufl.length ufc] 53, bx g1 #[.string xn, .slice xa1 xl1.length xc1, .slice xa2 xl2.length xc2, .slice xa3 xl3.length xc3] 26]) rfl
                exact ag67 ⟨g102, g96⟩ (by kernel_rfl) ⟨M118, trivial⟩
          · skip
            have ph28 : ¬ (((k : Nat) : Int) < ((ufl.length : Nat) : Int)) := of_decide_eq_false h28
            refine SL.bool (d := 46) (x := (decide (((k : Nat) : Int) < ((ufl.length : Nat) : Int)))) (y := false) h28 (by kernel_rfl) ?_
            refine SL.nil ?_
            refine SC.next ?_
            refine SC.no (by kernel_rfl) ?_
            refine SC.exit (i := 0) (by kernel_rfl) ?_
            refine SQ.seqExit (by nofun) ?_
            refine ex24 (by nofun) ?_
            refine SQ.blockHere ?_
            refine SC.next ?_
            refine SC.seq (by kernel_rfl) ?_
            refine SC.region [0, 1, 2, 3, 4, 5, 6, 7, 8, 9, 10, 11, 12, 13] (by kernel_rfl) (by kernel_rfl) ?_
            refine SL.run (d := 82) (v := .pointer (some ⟨g5, 0, none⟩)) (by kernel_rfl) ?_
            refine SL.load (d := 83) (t := 50) (a := .pointer (some ⟨g5, 0, none⟩)) (v := .int .i64 uf) (by kernel_rfl) (M27.ldCell 2 rfl (j := 0) (v := .int .i64 uf) rfl Try.underlying50 rfl) ?_
            rcases Bool.eq_false_or_eq_true (decide (uf = (2 : Int))) with h119 | h119
            · skip
              have ph119 : uf = (2 : Int) := of_decide_eq_true h119
              refine SL.bool (d := 84) (x := (uf == (2 : Int))) (y := true) ((int_beq _ _).trans h119) (by kernel_rfl) ?_
              refine SL.run (d := 85) (v := .bool true) (by kernel_rfl) ?_
              refine SL.offs [4, 5, 6, 7, 8, 9, 10, 11] (is := [12, 13]) rfl (by kernel_rfl) ?_
              refine SL.pick (d := 94) (v := .bool true) (by kernel_rfl) ?_
              refine SL.run (d := 10) (v := .bool true) (by kernel_rfl) ?_
              refine SL.nil ?_
              refine SC.next ?_
              refine SC.keep (l' := [(10, .bool true)]) [10] (by kernel_rfl) ?_
              refine SC.ret (by kernel_rfl) ?_
              refine SQ.ret1 (t := 10) (v := .bool true) (.inr rfl) (by kernel_rfl) (by kernel_rfl) ?_
              refine ⟨_, rfl, ?_, M27.bel⟩
              rw [hD]
              exact yes_iff (forms_rec ‹_› ‹_› ‹_› ‹_› (by dsimp only; omega) (by dsimp only; omega) hpre)
            · skip
              have ph119 : ¬ (uf = (2 : Int)) := of_decide_eq_false h119
              refine SL.bool (d := 84) (x := (uf == (2 : Int))) (y := false) ((int_beq _ _).trans h119) (by kernel_rfl) ?_
              refine SL.run (d := 85) (v := .bool false) (by kernel_rfl) ?_
              refine SL.load (d := 86) (t := 26) (a := .pointer (some ⟨g1, 0, none⟩)) (v := .agg #[.string xn, .slice xa1 xl1.length xc1, .slice xa2 xl2.length xc2, .slice xa3 xl3.length xc3]) (by kernel_rfl) (M27.ldBox 3 rfl Try.underlying26 rfl (by kernel_rfl)) ?_
              refine SL.run (d := 87) (v := .pointer (some ⟨g5, 3, none⟩)) (by kernel_rfl) ?_
              refine SL.load (d := 88) (t := 34) (a := .pointer (some ⟨g5, 3, none⟩)) (v := .agg #[.int .i64 um, .int .i64 ui]) (by kernel_rfl) (M27.ldPart 2 rfl 3 (vs := [.int .i64 um, .int .i64 ui]) rfl Try.underlying34 rfl (by kernel_rfl) rfl) ?_
              refine SL.load (d := 89) (t := 26) (a := .pointer (some ⟨g9, 0, none⟩)) (v := .agg #[.string yn, .slice ya1 yl1.length yc1, .slice ya2 yl2.length yc2, .slice ya3 yl3.length yc3]) (by kernel_rfl) (M27.ldBox 1 rfl Try.underlying26 rfl (by kernel_rfl)) ?_
              refine SL.run (d := 90) (v := .pointer (some ⟨g13, 3, none⟩)) (by kernel_rfl) ?_
              refine SL.load (d := 91) (t := 34) (a := .pointer (some ⟨g13, 3, none⟩)) (v := .agg #[.int .i64 vm, .int .i64 vi]) (by kernel_rfl) (M27.ldPart 0 rfl 3 (vs := [.int .i64 vm, .int .i64 vi]) rfl Try.underlying34 rfl (by kernel_rfl) rfl) ?_
              refine SL.run (d := 92) (v := .slice ta m tc) (by kernel_rfl) ?_
              refine SL.call (d := 93) (f := 29) (vs := [.agg #[.string xn, .slice xa1 xl1.length xc1, .slice xa2 xl2.length xc2, .slice xa3 xl3.length xc3], .agg #[.int .i64 um, .int .i64 ui], .agg #[.string yn, .slice ya1 yl1.length yc1, .slice ya2 yl2.length yc2, .slice ya3 yl3.length yc3], .agg #[.int .i64 vm, .int .i64 vi], .slice ta m tc]) (by kernel_rfl) (by kernel_rfl) (once_walk (x := ⟨xn, ⟨xa1, xc1, xl1⟩, ⟨xa2, xc2, xl2⟩, ⟨xa3, xc3, xl3⟩⟩) (y := ⟨yn, ⟨ya1, yc1, yl1⟩, ⟨ya2, yc2, yl2⟩, ⟨ya3, yc3, yl3⟩⟩) (rm := um) (ri := ui) (sm := vm) (si := vi) (ta := ta) (m := m) (tc := tc) (n := n) (T := T) (w := w26) (hx.bel M27.bel) (hy.bel M27.bel) (iu.1 ‹_›).2 (iv.1 (by dsimp only; omega)).2 (ht.bel M27.bel)) ?_
              rintro e w120 ⟨R123, rfl, hR124, hb121⟩
              refine ⟨_, rfl, ?_⟩
              have M122 := M27.call hb121
              cases R123
              · skip
                have phR124 : ¬ (onceP (⟨xn, ⟨xa1, xc1, xl1⟩, ⟨xa2, xc2, xl2⟩, ⟨xa3, xc3, xl3⟩⟩ : Fc).d (⟨yn, ⟨ya1, yc1, yl1⟩, ⟨ya2, yc2, yl2⟩, ⟨ya3, yc3, yl3⟩⟩ : Fc).d (fun i k => T i k = true) ⟨um, ui⟩ ⟨vm, vi⟩) := fun q => Bool.noConfusion (hR124.2 q)
                refine SL.pick (d := 94) (v := .bool false) (by kernel_rfl) ?_
                refine SL.run (d := 10) (v := .bool false) (by kernel_rfl) ?_
                refine SL.nil ?_
                refine SC.next ?_
                refine SC.keep (l' := [(10, .bool false)]) [10] (by kernel_rfl) ?_
                refine SC.ret (by kernel_rfl) ?_
                refine SQ.ret1 (t := 10) (v := .bool false) (.inr rfl) (by kernel_rfl) (by kernel_rfl) ?_
                refine ⟨_, rfl, ?_, M122.bel⟩
                rw [hD]
                rw [forms_base ‹_› ‹_› ‹_› ‹_›]
                exact no_iff ‹_›
              · skip
                have phR124 : onceP (⟨xn, ⟨xa1, xc1, xl1⟩, ⟨xa2, xc2, xl2⟩, ⟨xa3, xc3, xl3⟩⟩ : Fc).d (⟨yn, ⟨ya1, yc1, yl1⟩, ⟨ya2, yc2, yl2⟩, ⟨ya3, yc3, yl3⟩⟩ : Fc).d (fun i k => T i k = true) ⟨um, ui⟩ ⟨vm, vi⟩ := hR124.1 rfl
                refine SL.pick (d := 94) (v := .bool true) (by kernel_rfl) ?_
                refine SL.run (d := 10) (v := .bool true) (by kernel_rfl) ?_
                refine SL.nil ?_
                refine SC.next ?_
                refine SC.keep (l' := [(10, .bool true)]) [10] (by kernel_rfl) ?_
                refine SC.ret (by kernel_rfl) ?_
                refine SQ.ret1 (t := 10) (v := .bool true) (.inr rfl) (by kernel_rfl) (by kernel_rfl) ?_
                refine ⟨_, rfl, ?_, M122.bel⟩
                rw [hD]
                rw [forms_base ‹_› ‹_› ‹_› ‹_›]
                exact yes_iff ‹_›
        · skip
          have ph20 : ¬ (((ufl.length : Nat) : Int) = ((vfl.length : Nat) : Int)) := of_decide_eq_false h20
          refine SL.bool (d := 40) (x := (((ufl.length : Nat) : Int) != ((vfl.length : Nat) : Int))) (y := true) ((int_bne _ _).trans (by rw [h20]; rfl)) (by kernel_rfl) ?_
          refine SL.pick (d := 41) (v := .bool true) (by kernel_rfl) ?_
          refine SL.nil ?_
          refine SC.next ?_
          refine SC.keep (l' := [(4, .slice ta m tc), (5, .pointer (some ⟨g1, 0, none⟩)), (6, .pointer (some ⟨g5, 0, none⟩)), (7, .pointer (some ⟨g9, 0, none⟩)), (8, .pointer (some ⟨g13, 0, none⟩)), (10, .bool false), (41, .bool true)]) [4, 5, 6, 7, 8, 10, 41] (by kernel_rfl) ?_
          refine SC.yes (by kernel_rfl) ?_
          refine SC.seq (by kernel_rfl) ?_
          refine SC.region [0] (by kernel_rfl) (by kernel_rfl) ?_
          refine SL.run (d := 10) (v := .bool false) (by kernel_rfl) ?_
          refine SL.nil ?_
          refine SC.next ?_
          refine SC.ret (by kernel_rfl) ?_
          refine SQ.seqExit (by nofun) ?_
          refine SQ.ret1 (t := 10) (v := .bool false) (.inr rfl) (by kernel_rfl) (by kernel_rfl) ?_
          refine ⟨_, rfl, ?_, M16.bel⟩
          rw [hD]
          exact no_iff (forms_len HF HG (by dsimp only; omega))
      · skip
        have ph19 : ¬ (us = vs) := of_decide_eq_false h19
        refine SL.bool (d := 31) (x := (us != vs)) (y := true) ((int_bne _ _).trans (by rw [h19]; rfl)) (by kernel_rfl) ?_
        refine SL.pick (d := 32) (v := .bool true) (by kernel_rfl) ?_
        refine SL.run (d := 33) (v := .bool true) (by kernel_rfl) ?_
        refine SL.offs [20, 21, 22, 23, 24, 25, 26] (is := [27]) rfl (by kernel_rfl) ?_
        refine SL.pick (d := 41) (v := .bool true) (by kernel_rfl) ?_
        refine SL.nil ?_
        refine SC.next ?_
        refine SC.keep (l' := [(4, .slice ta m tc), (5, .pointer (some ⟨g1, 0, none⟩)), (6, .pointer (some ⟨g5, 0, none⟩)), (7, .pointer (some ⟨g9, 0, none⟩)), (8, .pointer (some ⟨g13, 0, none⟩)), (10, .bool false), (41, .bool true)]) [4, 5, 6, 7, 8, 10, 41] (by kernel_rfl) ?_
        refine SC.yes (by kernel_rfl) ?_
        refine SC.seq (by kernel_rfl) ?_
        refine SC.region [0] (by kernel_rfl) (by kernel_rfl) ?_
        refine SL.run (d := 10) (v := .bool false) (by kernel_rfl) ?_
        refine SL.nil ?_
        refine SC.next ?_
        refine SC.ret (by kernel_rfl) ?_
        refine SQ.seqExit (by nofun) ?_
        refine SQ.ret1 (t := 10) (v := .bool false) (.inr rfl) (by kernel_rfl) (by kernel_rfl) ?_
        refine ⟨_, rfl, ?_, M16.bel⟩
        rw [hD]
        exact no_iff (fun q => by have q1 := q.1; have q2 := q.2.1; have q3 := q.2.2.1; exact ‹¬ _› ‹_›)
    · skip
      have ph18 : ¬ (ul = vl) := of_decide_eq_false h18
      refine SL.bool (d := 24) (x := (ul != vl)) (y := true) ((int_bne _ _).trans (by rw [h18]; rfl)) (by kernel_rfl) ?_
      refine SL.pick (d := 25) (v := .bool true) (by kernel_rfl) ?_
      refine SL.run (d := 26) (v := .bool true) (by kernel_rfl) ?_
      refine SL.offs [13, 14, 15, 16, 17] (is := [18, 19, 20, 21, 22, 23, 24, 25, 26, 27]) rfl (by kernel_rfl) ?_
      refine SL.pick (d := 32) (v := .bool true) (by kernel_rfl) ?_
      refine SL.run (d := 33) (v := .bool true) (by kernel_rfl) ?_
      refine SL.offs [20, 21, 22, 23, 24, 25, 26] (is := [27]) rfl (by kernel_rfl) ?_
      refine SL.pick (d := 41) (v := .bool true) (by kernel_rfl) ?_
      refine SL.nil ?_
      refine SC.next ?_
      refine SC.keep (l' := [(4, .slice ta m tc), (5, .pointer (some ⟨g1, 0, none⟩)), (6, .pointer (some ⟨g5, 0, none⟩)), (7, .pointer (some ⟨g9, 0, none⟩)), (8, .pointer (some ⟨g13, 0, none⟩)), (10, .bool false), (41, .bool true)]) [4, 5, 6, 7, 8, 10, 41] (by kernel_rfl) ?_
      refine SC.yes (by kernel_rfl) ?_
      refine SC.seq (by kernel_rfl) ?_
      refine SC.region [0] (by kernel_rfl) (by kernel_rfl) ?_
      refine SL.run (d := 10) (v := .bool false) (by kernel_rfl) ?_
      refine SL.nil ?_
      refine SC.next ?_
      refine SC.ret (by kernel_rfl) ?_
      refine SQ.seqExit (by nofun) ?_
      refine SQ.ret1 (t := 10) (v := .bool false) (.inr rfl) (by kernel_rfl) (by kernel_rfl) ?_
      refine ⟨_, rfl, ?_, M16.bel⟩
      rw [hD]
      exact no_iff (fun q => by have q1 := q.1; have q2 := q.2.1; have q3 := q.2.2.1; exact ‹¬ _› ‹_›)
  · skip
    have ph17 : ¬ (uf = vf) := of_decide_eq_false h17
    refine SL.bool (d := 18) (x := (uf != vf)) (y := true) ((int_bne _ _).trans (by rw [h17]; rfl)) (by kernel_rfl) ?_
    refine SL.run (d := 19) (v := .bool true) (by kernel_rfl) ?_
    refine SL.offs [6, 7, 8, 9, 10] (is := [11, 12, 13, 14, 15, 16, 17, 18, 19, 20, 21, 22, 23, 24, 25, 26, 27]) rfl (by kernel_rfl) ?_
    refine SL.pick (d := 25) (v := .bool true) (by kernel_rfl) ?_
    refine SL.run (d := 26) (v := .bool true) (by kernel_rfl) ?_
    refine SL.offs [13, 14, 15, 16, 17] (is := [18, 19, 20, 21, 22, 23, 24, 25, 26, 27]) rfl (by kernel_rfl) ?_
    refine SL.pick (d := 32) (v := .bool true) (by kernel_rfl) ?_
    refine SL.run (d := 33) (v := .bool true) (by kernel_rfl) ?_
    refine SL.offs [20, 21, 22, 23, 24, 25, 26] (is := [27]) rfl (by kernel_rfl) ?_
    refine SL.pick (d := 41) (v := .bool true) (by kernel_rfl) ?_
    refine SL.nil ?_
    refine SC.next ?_
    refine SC.keep (l' := [(4, .slice ta m tc), (5, .pointer (some ⟨g1, 0, none⟩)), (6, .pointer (some ⟨g5, 0, none⟩)), (7, .pointer (some ⟨g9, 0, none⟩)), (8, .pointer (some ⟨g13, 0, none⟩)), (10, .bool false), (41, .bool true)]) [4, 5, 6, 7, 8, 10, 41] (by kernel_rfl) ?_
    refine SC.yes (by kernel_rfl) ?_
    refine SC.seq (by kernel_rfl) ?_
    refine SC.region [0] (by kernel_rfl) (by kernel_rfl) ?_
    refine SL.run (d := 10) (v := .bool false) (by kernel_rfl) ?_
    refine SL.nil ?_
    refine SC.next ?_
    refine SC.ret (by kernel_rfl) ?_
    refine SQ.seqExit (by nofun) ?_
    refine SQ.ret1 (t := 10) (v := .bool false) (.inr rfl) (by kernel_rfl) (by kernel_rfl) ?_
    refine ⟨_, rfl, ?_, M16.bel⟩
    rw [hD]
    exact no_iff (fun q => by have q1 := q.1; have q2 := q.2.1; have q3 := q.2.2.1; exact ‹¬ _› ‹_›)
end Go.Proofs.Ytgcjdkgeiopllaa
