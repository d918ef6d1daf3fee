/- Walks: the reference's reader: Some, Byte, Word, name, readRef. Printed by bin/gen_symref.py. -/
import Derived.Test.YtfnibpkojhgflaaSymRef0
namespace Go.Proofs.Ytfnibpkojhgflaa
set_option linter.unusedVariables false
set_option linter.unusedSimpArgs false
open Go.RowKit
variable {D : RBy} {w0 we : World} {g : Nat} {s : St}

theorem refSome_bad (a : Option Addr) (c : Nat) (l : List Int) (HR : RRd ⟨a, c, l⟩ w0 we g s) (i : Nat) (M0 : Mem ⟨we, (· = g)⟩ we [bx g (rrC (a) c l i true) 92]) (hi : i ≤ l.length) (n : Nat) (hn : n ≤ 1000000) :
  Calls Try.prog 40 #[.pointer (some ⟨g, 0, none⟩), .int .i64 n] we fun e w' => e = .returned (.slice none 0 0) ∧ RRd ⟨a, c, l⟩ w0 w' g none ∧ Ke (· = g) we w' := by
 have hlen := HR.len
 dsimp only at hlen
 refine SC.enter (vs := [.pointer (some ⟨g, 0, none⟩), .int .i64 n]) (n := 55) (l := [(0, .pointer (some ⟨g, 0, none⟩)), (1, .int .i64 n)]) Try.func40 (by kernel_rfl) (by kernel_rfl) (by kernel_rfl) (by kernel_rfl) (SC.seq (by kernel_rfl) (SC.region [0] (by kernel_rfl) (by kernel_rfl) (SL.run (d := 4) (v := .slice none 0 0) (by kernel_rfl) (SL.nil (SC.next (SC.seq (by kernel_rfl) ?_))))))
 refine SC.seq (by kernel_rfl) (SC.mix [] [0, 1, 2, 3, 4, 5, 6, 7, 8, 9, 10, 11, 12, 13, 14, 15, 16, 17, 18, 19, 20, 21] (by kernel_rfl) (by kernel_rfl) (by kernel_rfl) (PanOk.seq (PanOk.seq PanOk.body)) ?_)
 intro w1 hb2
 have M3 := M0.call hb2
 refine SM.last (SU.run (d := 5) (v := .pointer (some ⟨g, 0, none⟩)) (fun y hy => by kernel_rfl) (SU.run (d := 6) (v := .pointer (some ⟨g, 0, none⟩)) (fun y hy => by kernel_rfl) (SU.run (d := 7) (v := .pointer (some ⟨g, 2, none⟩)) (fun y hy => by kernel_rfl) (SU.load (d := 8) (t := 4) (b := .pointer (some ⟨g, 2, none⟩)) (v := .bool true) (by kernel_rfl) (fun y hy => ((M3.call hy).ldCell 0 rfl (j := 2) (v := .bool true) rfl Try.underlying4 rfl)) (SU.run (d := 9) (v := .bool true) (fun y hy => by kernel_rfl) (SU.offs [5, 6] (qs := [7, 8, 9, 10, 11, 12, 13, 14, 15, 16, 17, 18, 19, 20, 21]) rfl (by kernel_rfl) ?_))))))
 refine SU.pick (d := 12) (v := .bool true) (by kernel_rfl) (SU.run (d := 13) (v := .bool true) (fun y hy => by kernel_rfl) (SU.offs [9, 10, 11, 12, 13, 14, 15, 16, 17, 18, 19, 20] (qs := [21]) rfl (by kernel_rfl) (SU.pick (d := 26) (v := .bool true) (by kernel_rfl) (SU.done (SC.next (SC.yes (by kernel_rfl) ?_))))))
 refine SC.seq (by kernel_rfl) (SC.region [0, 1, 2, 3] (by kernel_rfl) (by kernel_rfl) (SL.run (d := 27) (v := .pointer (some ⟨g, 0, none⟩)) (by kernel_rfl) (SL.run (d := 28) (v := .pointer (some ⟨g, 0, none⟩)) (by kernel_rfl) (SL.run (d := 29) (v := .pointer (some ⟨g, 2, none⟩)) (by kernel_rfl) (SL.storeM (t := 4) (a := .pointer (some ⟨g, 2, none⟩)) (v := .bool true) (by kernel_rfl) (M3.st1 0 rfl 2 rfl 4 rfl (by kernel_rfl) rfl) ?_)))))
 intro w4 M5 hk6 shk6
 refine SL.nil (SC.next (SC.seq (by kernel_rfl) (SC.region [0] (by kernel_rfl) (by kernel_rfl) (SL.run (d := 4) (v := .slice none 0 0) (by kernel_rfl) (SL.nil (SC.next ?_))))))
 refine SC.ret (by kernel_rfl) (SQ.seqExit (by nofun) (SQ.ret1 (t := 4) (v := .slice none 0 0) (.inr rfl) (by kernel_rfl) (by kernel_rfl) ?_))
 exact ⟨rfl, HR.done M5 0 (i := i) (bad := true) rfl hi rfl, M5.ke⟩
theorem refSome_few (a : Option Addr) (c : Nat) (l : List Int) (HR : RRd ⟨a, c, l⟩ w0 we g s) (i : Nat) (M0 : Mem ⟨we, (· = g)⟩ we [bx g (rrC (a) c l i false) 92]) (hi : i ≤ l.length) (n : Nat) (hn : n ≤ 1000000) (h : l.length - i < n) :
  Calls Try.prog 40 #[.pointer (some ⟨g, 0, none⟩), .int .i64 n] we fun e w' => e = .returned (.slice none 0 0) ∧ RRd ⟨a, c, l⟩ w0 w' g none ∧ Ke (· = g) we w' := by
 have hlen := HR.len
 dsimp only at hlen
 have k0 : decide (((n : Nat) : Int) < (0 : Int)) = false := decide_eq_false (by omega)
 have k1 : decide ((((l.length : Nat) : Int) - ((i : Nat) : Int)) < ((n : Nat) : Int)) = true := decide_eq_true (by omega)
 refine SC.enter (vs := [.pointer (some ⟨g, 0, none⟩), .int .i64 n]) (n := 55) (l := [(0, .pointer (some ⟨g, 0, none⟩)), (1, .int .i64 n)]) Try.func40 (by kernel_rfl) (by kernel_rfl) (by kernel_rfl) (by kernel_rfl) (SC.seq (by kernel_rfl) (SC.region [0] (by kernel_rfl) (by kernel_rfl) (SL.run (d := 4) (v := .slice none 0 0) (by kernel_rfl) (SL.nil (SC.next (SC.seq (by kernel_rfl) ?_))))))
 refine SC.seq (by kernel_rfl) (SC.mix [] [0, 1, 2, 3, 4, 5, 6, 7, 8, 9, 10, 11, 12, 13, 14, 15, 16, 17, 18, 19, 20, 21] (by kernel_rfl) (by kernel_rfl) (by kernel_rfl) (PanOk.seq (PanOk.seq PanOk.body)) ?_)
 intro w1 hb2
 have M3 := M0.call hb2
 refine SM.last (SU.run (d := 5) (v := .pointer (some ⟨g, 0, none⟩)) (fun y hy => by kernel_rfl) (SU.run (d := 6) (v := .pointer (some ⟨g, 0, none⟩)) (fun y hy => by kernel_rfl) (SU.run (d := 7) (v := .pointer (some ⟨g, 2, none⟩)) (fun y hy => by kernel_rfl) (SU.load (d := 8) (t := 4) (b := .pointer (some ⟨g, 2, none⟩)) (v := .bool false) (by kernel_rfl) (fun y hy => ((M3.call hy).ldCell 0 rfl (j := 2) (v := .bool false) rfl Try.underlying4 rfl)) (SU.run (d := 9) (v := .bool false) (fun y hy => by kernel_rfl) (SU.run (d := 10) (v := .int .i64 n) (fun y hy => by kernel_rfl) ?_))))))
 refine SU.bool (d := 11) (x := (decide (((n : Nat) : Int) < (0 : Int)))) (z := false) k0 (fun y hy => by kernel_rfl) (SU.pick (d := 12) (v := .bool false) (by kernel_rfl) (SU.run (d := 13) (v := .bool false) (fun y hy => by kernel_rfl) (SU.run (d := 14) (v := .int .i64 n) (fun y hy => by kernel_rfl) (SU.run (d := 15) (v := .pointer (some ⟨g, 0, none⟩)) (fun y hy => by kernel_rfl) (SU.run (d := 16) (v := .pointer (some ⟨g, 0, none⟩)) (fun y hy => by kernel_rfl) (SU.run (d := 17) (v := .pointer (some ⟨g, 0, none⟩)) (fun y hy => by kernel_rfl) ?_))))))
 refine SU.load (d := 18) (t := 46) (b := .pointer (some ⟨g, 0, none⟩)) (v := .slice a l.length c) (by kernel_rfl) (fun y hy => ((M3.call hy).ldCell 0 rfl (j := 0) (v := .slice a l.length c) rfl Try.underlying46 rfl)) (SU.builtin (d := 19) (b := .len) (ts := [46]) (ty := 3) (vs := [.slice a l.length c]) (v := .int .i64 ((l.length : Nat) : Int)) (by kernel_rfl) (fun y k => run_len Try.underlying46 rfl k) (SU.run (d := 20) (v := .pointer (some ⟨g, 0, none⟩)) (fun y hy => by kernel_rfl) (SU.run (d := 21) (v := .pointer (some ⟨g, 0, none⟩)) (fun y hy => by kernel_rfl) (SU.run (d := 22) (v := .pointer (some ⟨g, 1, none⟩)) (fun y hy => by kernel_rfl) (SU.load (d := 23) (t := 3) (b := .pointer (some ⟨g, 1, none⟩)) (v := .int .i64 i) (by kernel_rfl) (fun y hy => ((M3.call hy).ldCell 0 rfl (j := 1) (v := .int .i64 i) rfl Try.underlying3 rfl)) ?_)))))
 refine SU.int (d := 24) (q := .i64) (x := IntKind.wrap .i64 (((l.length : Nat) : Int) - ((i : Nat) : Int))) (z := ((l.length : Nat) : Int) - ((i : Nat) : Int)) (wr64 (by omega) (by omega) (by omega)) (fun y hy => by kernel_rfl) (SU.bool (d := 25) (x := (decide ((((l.length : Nat) : Int) - ((i : Nat) : Int)) < ((n : Nat) : Int)))) (z := true) k1 (fun y hy => by kernel_rfl) (SU.pick (d := 26) (v := .bool true) (by kernel_rfl) (SU.done (SC.next (SC.keep (l' := [(0, .pointer (some ⟨g, 0, none⟩)), (1, .int .i64 n), (4, .slice none 0 0), (26, .bool true)]) [0, 1, 4, 26] (by kernel_rfl) (SC.yes (by kernel_rfl) ?_))))))
 refine SC.seq (by kernel_rfl) (SC.region [0, 1, 2, 3] (by kernel_rfl) (by kernel_rfl) (SL.run (d := 27) (v := .pointer (some ⟨g, 0, none⟩)) (by kernel_rfl) (SL.run (d := 28) (v := .pointer (some ⟨g, 0, none⟩)) (by kernel_rfl) (SL.run (d := 29) (v := .pointer (some ⟨g, 2, none⟩)) (by kernel_rfl) (SL.storeM (t := 4) (a := .pointer (some ⟨g, 2, none⟩)) (v := .bool true) (by kernel_rfl) (M3.st1 0 rfl 2 rfl 4 rfl (by kernel_rfl) rfl) ?_)))))
 intro w4 M5 hk6 shk6
 refine SL.nil (SC.next (SC.seq (by kernel_rfl) (SC.region [0] (by kernel_rfl) (by kernel_rfl) (SL.run (d := 4) (v := .slice none 0 0) (by kernel_rfl) (SL.nil (SC.next ?_))))))
 refine SC.ret (by kernel_rfl) (SQ.seqExit (by nofun) (SQ.ret1 (t := 4) (v := .slice none 0 0) (.inr rfl) (by kernel_rfl) (by kernel_rfl) ?_))
 exact ⟨rfl, HR.done M5 0 (i := i) (bad := true) rfl hi rfl, M5.ke⟩
theorem refSome_zero  (HR : RRd ⟨none, 0, []⟩ w0 we g s) (M0 : Mem ⟨we, (· = g)⟩ we [bx g (rrC none 0 [] 0 false) 92]) :
  Calls Try.prog 40 #[.pointer (some ⟨g, 0, none⟩), .int .i64 0] we fun e w' => ∃ a' c', e = .returned (.slice a' 0 c') ∧ RdI .u8 w' a' c' [] ∧ RRd ⟨none, 0, []⟩ w0 w' g (some []) ∧ Ke (· = g) we w' := by
 refine SC.enter (vs := [.pointer (some ⟨g, 0, none⟩), .int .i64 0]) (n := 55) (l := [(0, .pointer (some ⟨g, 0, none⟩)), (1, .int .i64 0)]) Try.func40 (by kernel_rfl) (by kernel_rfl) (by kernel_rfl) (by kernel_rfl) (SC.seq (by kernel_rfl) (SC.region [0] (by kernel_rfl) (by kernel_rfl) (SL.run (d := 4) (v := .slice none 0 0) (by kernel_rfl) (SL.nil (SC.next (SC.seq (by kernel_rfl) ?_))))))
 refine SC.seq (by kernel_rfl) (SC.mix [] [0, 1, 2, 3, 4, 5, 6, 7, 8, 9, 10, 11, 12, 13, 14, 15, 16, 17, 18, 19, 20, 21] (by kernel_rfl) (by kernel_rfl) (by kernel_rfl) (PanOk.seq (PanOk.seq PanOk.body)) ?_)
 intro w1 hb2
 have M3 := M0.call hb2
 refine SM.last (SU.run (d := 5) (v := .pointer (some ⟨g, 0, none⟩)) (fun y hy => by kernel_rfl) (SU.run (d := 6) (v := .pointer (some ⟨g, 0, none⟩)) (fun y hy => by kernel_rfl) (SU.run (d := 7) (v := .pointer (some ⟨g, 2, none⟩)) (fun y hy => by kernel_rfl) (SU.load (d := 8) (t := 4) (b := .pointer (some ⟨g, 2, none⟩)) (v := .bool false) (by kernel_rfl) (fun y hy => ((M3.call hy).ldCell 0 rfl (j := 2) (v := .bool false) rfl Try.underlying4 rfl)) (SU.run (d := 9) (v := .bool false) (fun y hy => by kernel_rfl) (SU.run (d := 10) (v := .int .i64 0) (fun y hy => by kernel_rfl) ?_))))))
 refine SU.run (d := 11) (v := .bool false) (fun y hy => by kernel_rfl) (SU.pick (d := 12) (v := .bool false) (by kernel_rfl) (SU.run (d := 13) (v := .bool false) (fun y hy => by kernel_rfl) (SU.run (d := 14) (v := .int .i64 0) (fun y hy => by kernel_rfl) (SU.run (d := 15) (v := .pointer (some ⟨g, 0, none⟩)) (fun y hy => by kernel_rfl) (SU.run (d := 16) (v := .pointer (some ⟨g, 0, none⟩)) (fun y hy => by kernel_rfl) (SU.run (d := 17) (v := .pointer (some ⟨g, 0, none⟩)) (fun y hy => by kernel_rfl) ?_))))))
 refine SU.load (d := 18) (t := 46) (b := .pointer (some ⟨g, 0, none⟩)) (v := .slice none 0 0) (by kernel_rfl) (fun y hy => ((M3.call hy).ldCell 0 rfl (j := 0) (v := .slice none 0 0) rfl Try.underlying46 rfl)) (SU.builtin (d := 19) (b := .len) (ts := [46]) (ty := 3) (vs := [.slice none 0 0]) (v := .int .i64 0) (by kernel_rfl) (fun y k => run_len Try.underlying46 rfl k) (SU.run (d := 20) (v := .pointer (some ⟨g, 0, none⟩)) (fun y hy => by kernel_rfl) (SU.run (d := 21) (v := .pointer (some ⟨g, 0, none⟩)) (fun y hy => by kernel_rfl) (SU.run (d := 22) (v := .pointer (some ⟨g, 1, none⟩)) (fun y hy => by kernel_rfl) (SU.load (d := 23) (t := 3) (b := .pointer (some ⟨g, 1, none⟩)) (v := .int .i64 0) (by kernel_rfl) (fun y hy => ((M3.call hy).ldCell 0 rfl (j := 1) (v := .int .i64 0) rfl Try.underlying3 rfl)) ?_)))))
 refine SU.run (d := 24) (v := .int .i64 0) (fun y hy => by kernel_rfl) (SU.run (d := 25) (v := .bool false) (fun y hy => by kernel_rfl) (SU.pick (d := 26) (v := .bool false) (by kernel_rfl) (SU.done (SC.next (SC.keep (l' := [(0, .pointer (some ⟨g, 0, none⟩)), (1, .int .i64 0), (4, .slice none 0 0), (26, .bool false)]) [0, 1, 4, 26] (by kernel_rfl) (SC.no (by kernel_rfl) ?_))))))
 refine SC.skip (by kernel_rfl) (SC.next (SC.seq (by kernel_rfl) (SC.region [0, 1, 2, 3, 4, 5, 6, 7, 8, 9] (by kernel_rfl) (by kernel_rfl) (SL.run (d := 30) (v := .pointer (some ⟨g, 0, none⟩)) (by kernel_rfl) (SL.run (d := 31) (v := .pointer (some ⟨g, 0, none⟩)) (by kernel_rfl) (SL.run (d := 32) (v := .pointer (some ⟨g, 0, none⟩)) (by kernel_rfl) ?_))))))
 refine SL.run (d := 33) (v := .pointer (some ⟨g, 1, none⟩)) (by kernel_rfl) (SL.load (d := 34) (t := 3) (a := .pointer (some ⟨g, 1, none⟩)) (v := .int .i64 0) (by kernel_rfl) (M3.ldCell 0 rfl (j := 1) (v := .int .i64 0) rfl Try.underlying3 rfl) (SL.run (d := 35) (v := .int .i64 0) (by kernel_rfl) (SL.run (d := 36) (v := .int .i64 0) (by kernel_rfl) (SL.run (d := 37) (v := .pointer (some ⟨g, 0, none⟩)) (by kernel_rfl) (SL.run (d := 38) (v := .pointer (some ⟨g, 1, none⟩)) (by kernel_rfl) (SL.storeM (t := 3) (a := .pointer (some ⟨g, 1, none⟩)) (v := .int .i64 0) (by kernel_rfl) (M3.st1 0 rfl 1 rfl 3 rfl (by kernel_rfl) rfl) ?_))))))
 intro w4 M5 hk6 shk6
 refine SL.nil (SC.next (SC.seq (by kernel_rfl) (SC.mix [([0, 1, 2, 3, 4, 5, 6, 7, 8, 9, 10, 11, 12, 13, 14], 15)] [16] (by kernel_rfl) (by kernel_rfl) (by kernel_rfl) (PanOk.seq PanOk.body) ?_)))
 intro w7 hb8
 have M9 := M5.call hb8
 refine SM.step (SU.run (d := 39) (v := .pointer (some ⟨g, 0, none⟩)) (fun y hy => by kernel_rfl) (SU.run (d := 40) (v := .pointer (some ⟨g, 0, none⟩)) (fun y hy => by kernel_rfl) (SU.run (d := 41) (v := .pointer (some ⟨g, 0, none⟩)) (fun y hy => by kernel_rfl) (SU.load (d := 42) (t := 46) (b := .pointer (some ⟨g, 0, none⟩)) (v := .slice none 0 0) (by kernel_rfl) (fun y hy => ((M9.call hy).ldCell 0 rfl (j := 0) (v := .slice none 0 0) rfl Try.underlying46 rfl)) (SU.run (d := 43) (v := .pointer (some ⟨g, 0, none⟩)) (fun y hy => by kernel_rfl) (SU.run (d := 44) (v := .pointer (some ⟨g, 0, none⟩)) (fun y hy => by kernel_rfl) ?_))))))
 refine SU.run (d := 45) (v := .pointer (some ⟨g, 1, none⟩)) (fun y hy => by kernel_rfl) (SU.load (d := 46) (t := 3) (b := .pointer (some ⟨g, 1, none⟩)) (v := .int .i64 0) (by kernel_rfl) (fun y hy => ((M9.call hy).ldCell 0 rfl (j := 1) (v := .int .i64 0) rfl Try.underlying3 rfl)) (SU.run (d := 47) (v := .int .i64 0) (fun y hy => by kernel_rfl) (SU.run (d := 48) (v := .int .i64 0) (fun y hy => by kernel_rfl) (SU.run (d := 49) (v := .pointer (some ⟨g, 0, none⟩)) (fun y hy => by kernel_rfl) (SU.run (d := 50) (v := .pointer (some ⟨g, 0, none⟩)) (fun y hy => by kernel_rfl) (SU.run (d := 51) (v := .pointer (some ⟨g, 1, none⟩)) (fun y hy => by kernel_rfl) ?_))))))
 refine SU.load (d := 52) (t := 3) (b := .pointer (some ⟨g, 1, none⟩)) (v := .int .i64 0) (by kernel_rfl) (fun y hy => ((M9.call hy).ldCell 0 rfl (j := 1) (v := .int .i64 0) rfl Try.underlying3 rfl)) (SU.ex (d := 53) (m := Instr.sliceAt 46 (.slice none 0 0) (some (.int .i64 0)) (some (.int .i64 0)) none) (v := .slice none 0 0) (by kernel_rfl) (fun y hy => (cut_nil (k := .i64) Try.underlying46 (by kernel_rfl) (.inr rfl) (.inr rfl))) (SU.go (SL.appendM (d := 54) (ts := [46, 46]) (ty := 46) (vs := [.slice none 0 0, .slice none 0 0]) (k' := 0) (by kernel_rfl) (Mem.append (m := 0) (news := ([] : List Value)) (Mem.addNil (e := 5) (size := 1) M9) 0 rfl (ET.of Try.underlying46 (by kernel_rfl) (by decide) (by decide) : ET Try.prog 46 5 (.int .u8 0) 1 1) (RdC.nilSlice _) rfl (fun u hu => (by cases hu)) (by omega) (by omega) (by omega)) ?_)))
 intro a10 c11 w12 M13 hk14
 have hb15 : Below _ _ w12 := hk14.toBelow (fun i _ e => (by cases e))
 refine SL.nil (SM.back hb15 (SM.last (SU.run (d := 4) (v := .slice a10 0 c11) (fun y hy => by kernel_rfl) (SU.done (SC.next (SC.keep (l' := [(4, .slice a10 0 c11)]) [4] (by kernel_rfl) ?_))))))
 refine SC.ret (by kernel_rfl) (SQ.ret1 (t := 4) (v := .slice a10 0 c11) (.inr rfl) (by kernel_rfl) (by kernel_rfl) ?_)
 exact ⟨_, _, rfl, ⟨M13.rd 0 rfl, fun x hx => (by cases hx)⟩, HR.done M13 1 (i := 0) (bad := false) rfl (Nat.le_refl _) rfl, M13.ke⟩
theorem refSome_much (b o : Nat) (c : Nat) (l : List Int) (HR : RRd ⟨some ⟨b, o, none⟩, c, l⟩ w0 we g s) (i : Nat) (M0 : Mem ⟨we, (· = g)⟩ we [bx g (rrC (some ⟨b, o, none⟩) c l i false) 92]) (hi : i ≤ l.length) (n : Nat) (hn : n ≤ 1000000) (h : n ≤ l.length - i) :
  Calls Try.prog 40 #[.pointer (some ⟨g, 0, none⟩), .int .i64 n] we fun e w' => ∃ a' c', e = .returned (.slice a' ((l.drop i).take n).length c') ∧ RdI .u8 w' a' c' ((l.drop i).take n) ∧ ((l.drop i).take n).length = n ∧ (1 ≤ n → ∃ b o, a' = some ⟨b, o, none⟩) ∧ RRd ⟨some ⟨b, o, none⟩, c, l⟩ w0 w' g (some (l.drop (i + n))) ∧ Ke (· = g) we w' := by
 have hlen := HR.len
 dsimp only at hlen
 have k0 : decide (((n : Nat) : Int) < (0 : Int)) = false := decide_eq_false (by omega)
 have k1 : decide ((((l.length : Nat) : Int) - ((i : Nat) : Int)) < ((n : Nat) : Int)) = false := decide_eq_false (by omega)
 have hrl := HR.rd.row.le
 have hcap := HR.rd.row.cap
 dsimp only at hrl hcap
 unfold maxLen at hcap
 obtain ⟨hwin, hwl⟩ : RdI .u8 w0 (cutV (some ⟨b, o, none⟩) c i) (c - i) ((l.drop i).take n) ∧ ((l.drop i).take n).length = n := by have := RdI.window HR.rd i (i + n) (by omega) (by dsimp only; omega) (fun x hx => by cases hx; rfl); rw [show i + n - i = n by omega] at this; exact this
 refine SC.enter (vs := [.pointer (some ⟨g, 0, none⟩), .int .i64 n]) (n := 55) (l := [(0, .pointer (some ⟨g, 0, none⟩)), (1, .int .i64 n)]) Try.func40 (by kernel_rfl) (by kernel_rfl) (by kernel_rfl) (by kernel_rfl) (SC.seq (by kernel_rfl) (SC.region [0] (by kernel_rfl) (by kernel_rfl) (SL.run (d := 4) (v := .slice none 0 0) (by kernel_rfl) (SL.nil (SC.next (SC.seq (by kernel_rfl) ?_))))))
 refine SC.seq (by kernel_rfl) (SC.mix [] [0, 1, 2, 3, 4, 5, 6, 7, 8, 9, 10, 11, 12, 13, 14, 15, 16, 17, 18, 19, 20, 21] (by kernel_rfl) (by kernel_rfl) (by kernel_rfl) (PanOk.seq (PanOk.seq PanOk.body)) ?_)
 intro w1 hb2
 have M3 := M0.call hb2
 refine SM.last (SU.run (d := 5) (v := .pointer (some ⟨g, 0, none⟩)) (fun y hy => by kernel_rfl) (SU.run (d := 6) (v := .pointer (some ⟨g, 0, none⟩)) (fun y hy => by kernel_rfl) (SU.run (d := 7) (v := .pointer (some ⟨g, 2, none⟩)) (fun y hy => by kernel_rfl) (SU.load (d := 8) (t := 4) (b := .pointer (some ⟨g, 2, none⟩)) (v := .bool false) (by kernel_rfl) (fun y hy => ((M3.call hy).ldCell 0 rfl (j := 2) (v := .bool false) rfl Try.underlying4 rfl)) (SU.run (d := 9) (v := .bool false) (fun y hy => by kernel_rfl) (SU.run (d := 10) (v := .int .i64 n) (fun y hy => by kernel_rfl) ?_))))))
 refine SU.bool (d := 11) (x := (decide (((n : Nat) : Int) < (0 : Int)))) (z := false) k0 (fun y hy => by kernel_rfl) (SU.pick (d := 12) (v := .bool false) (by kernel_rfl) (SU.run (d := 13) (v := .bool false) (fun y hy => by kernel_rfl) (SU.run (d := 14) (v := .int .i64 n) (fun y hy => by kernel_rfl) (SU.run (d := 15) (v := .pointer (some ⟨g, 0, none⟩)) (fun y hy => by kernel_rfl) (SU.run (d := 16) (v := .pointer (some ⟨g, 0, none⟩)) (fun y hy => by kernel_rfl) (SU.run (d := 17) (v := .pointer (some ⟨g, 0, none⟩)) (fun y hy => by kernel_rfl) ?_))))))
 refine SU.load (d := 18) (t := 46) (b := .pointer (some ⟨g, 0, none⟩)) (v := .slice (some ⟨b, o, none⟩) l.length c) (by kernel_rfl) (fun y hy => ((M3.call hy).ldCell 0 rfl (j := 0) (v := .slice (some ⟨b, o, none⟩) l.length c) rfl Try.underlying46 rfl)) (SU.builtin (d := 19) (b := .len) (ts := [46]) (ty := 3) (vs := [.slice (some ⟨b, o, none⟩) l.length c]) (v := .int .i64 ((l.length : Nat) : Int)) (by kernel_rfl) (fun y k => run_len Try.underlying46 rfl k) (SU.run (d := 20) (v := .pointer (some ⟨g, 0, none⟩)) (fun y hy => by kernel_rfl) (SU.run (d := 21) (v := .pointer (some ⟨g, 0, none⟩)) (fun y hy => by kernel_rfl) (SU.run (d := 22) (v := .pointer (some ⟨g, 1, none⟩)) (fun y hy => by kernel_rfl) (SU.load (d := 23) (t := 3) (b := .pointer (some ⟨g, 1, none⟩)) (v := .int .i64 i) (by kernel_rfl) (fun y hy => ((M3.call hy).ldCell 0 rfl (j := 1) (v := .int .i64 i) rfl Try.underlying3 rfl)) ?_)))))
 refine SU.int (d := 24) (q := .i64) (x := IntKind.wrap .i64 (((l.length : Nat) : Int) - ((i : Nat) : Int))) (z := ((l.length : Nat) : Int) - ((i : Nat) : Int)) (wr64 (by omega) (by omega) (by omega)) (fun y hy => by kernel_rfl) (SU.bool (d := 25) (x := (decide ((((l.length : Nat) : Int) - ((i : Nat) : Int)) < ((n : Nat) : Int)))) (z := false) k1 (fun y hy => by kernel_rfl) (SU.pick (d := 26) (v := .bool false) (by kernel_rfl) (SU.done (SC.next (SC.keep (l' := [(0, .pointer (some ⟨g, 0, none⟩)), (1, .int .i64 n), (4, .slice none 0 0), (26, .bool false)]) [0, 1, 4, 26] (by kernel_rfl) (SC.no (by kernel_rfl) ?_))))))
 refine SC.skip (by kernel_rfl) (SC.next (SC.seq (by kernel_rfl) (SC.region [0, 1, 2, 3, 4, 5, 6, 7, 8, 9] (by kernel_rfl) (by kernel_rfl) (SL.run (d := 30) (v := .pointer (some ⟨g, 0, none⟩)) (by kernel_rfl) (SL.run (d := 31) (v := .pointer (some ⟨g, 0, none⟩)) (by kernel_rfl) (SL.run (d := 32) (v := .pointer (some ⟨g, 0, none⟩)) (by kernel_rfl) ?_))))))
 refine SL.run (d := 33) (v := .pointer (some ⟨g, 1, none⟩)) (by kernel_rfl) (SL.load (d := 34) (t := 3) (a := .pointer (some ⟨g, 1, none⟩)) (v := .int .i64 i) (by kernel_rfl) (M3.ldCell 0 rfl (j := 1) (v := .int .i64 i) rfl Try.underlying3 rfl) (SL.run (d := 35) (v := .int .i64 n) (by kernel_rfl) (SL.int (d := 36) (q := .i64) (x := IntKind.wrap .i64 (((i : Nat) : Int) + ((n : Nat) : Int))) (y := ((i + n : Nat) : Int)) (wr64 (by omega) (by omega) (by omega)) (by kernel_rfl) (SL.run (d := 37) (v := .pointer (some ⟨g, 0, none⟩)) (by kernel_rfl) (SL.run (d := 38) (v := .pointer (some ⟨g, 1, none⟩)) (by kernel_rfl) (SL.storeM (t := 3) (a := .pointer (some ⟨g, 1, none⟩)) (v := .int .i64 ((i + n : Nat) : Int)) (by kernel_rfl) (M3.st1 0 rfl 1 rfl 3 rfl (by kernel_rfl) rfl) ?_))))))
 intro w4 M5 hk6 shk6
 refine SL.nil (SC.next (SC.seq (by kernel_rfl) (SC.mix [([0, 1, 2, 3, 4, 5, 6, 7, 8, 9, 10, 11, 12, 13, 14], 15)] [16] (by kernel_rfl) (by kernel_rfl) (by kernel_rfl) (PanOk.seq PanOk.body) ?_)))
 intro w7 hb8
 have M9 := M5.call hb8
 refine SM.step (SU.run (d := 39) (v := .pointer (some ⟨g, 0, none⟩)) (fun y hy => by kernel_rfl) (SU.run (d := 40) (v := .pointer (some ⟨g, 0, none⟩)) (fun y hy => by kernel_rfl) (SU.run (d := 41) (v := .pointer (some ⟨g, 0, none⟩)) (fun y hy => by kernel_rfl) (SU.load (d := 42) (t := 46) (b := .pointer (some ⟨g, 0, none⟩)) (v := .slice (some ⟨b, o, none⟩) l.length c) (by kernel_rfl) (fun y hy => ((M9.call hy).ldCell 0 rfl (j := 0) (v := .slice (some ⟨b, o, none⟩) l.length c) rfl Try.underlying46 rfl)) (SU.run (d := 43) (v := .pointer (some ⟨g, 0, none⟩)) (fun y hy => by kernel_rfl) (SU.run (d := 44) (v := .pointer (some ⟨g, 0, none⟩)) (fun y hy => by kernel_rfl) ?_))))))
 refine SU.run (d := 45) (v := .pointer (some ⟨g, 1, none⟩)) (fun y hy => by kernel_rfl) (SU.load (d := 46) (t := 3) (b := .pointer (some ⟨g, 1, none⟩)) (v := .int .i64 ((i + n : Nat) : Int)) (by kernel_rfl) (fun y hy => ((M9.call hy).ldCell 0 rfl (j := 1) (v := .int .i64 ((i + n : Nat) : Int)) rfl Try.underlying3 rfl)) (SU.run (d := 47) (v := .int .i64 n) (fun y hy => by kernel_rfl) (SU.int (d := 48) (q := .i64) (x := IntKind.wrap .i64 (((i + n : Nat) : Int) - ((n : Nat) : Int))) (z := ((i + n : Nat) : Int) - ((n : Nat) : Int)) (wr64 (by omega) (by omega) (by omega)) (fun y hy => by kernel_rfl) (SU.run (d := 49) (v := .pointer (some ⟨g, 0, none⟩)) (fun y hy => by kernel_rfl) (SU.run (d := 50) (v := .pointer (some ⟨g, 0, none⟩)) (fun y hy => by kernel_rfl) ?_)))))
 refine SU.run (d := 51) (v := .pointer (some ⟨g, 1, none⟩)) (fun y hy => by kernel_rfl) (SU.load (d := 52) (t := 3) (b := .pointer (some ⟨g, 1, none⟩)) (v := .int .i64 ((i + n : Nat) : Int)) (by kernel_rfl) (fun y hy => ((M9.call hy).ldCell 0 rfl (j := 1) (v := .int .i64 ((i + n : Nat) : Int)) rfl Try.underlying3 rfl)) (SU.ex (d := 53) (m := Instr.sliceAt 46 (.slice (some ⟨b, o, none⟩) l.length c) (some (.int .i64 (((i + n : Nat) : Int) - ((n : Nat) : Int)))) (some (.int .i64 ((i + n : Nat) : Int))) none) (v := .slice (cutV (some ⟨b, o, none⟩) c i) (((l.drop i).take n).length) (c - i)) (by kernel_rfl) (fun y hy => (cut_lh i (i + n) (((l.drop i).take n).length) Try.underlying46 (by kernel_rfl) (by omega) (by omega) (by omega) (by omega) (by omega))) ?_))
 refine SU.go (SL.appendM (d := 54) (ts := [46, 46]) (ty := 46) (vs := [.slice none 0 0, .slice (cutV (some ⟨b, o, none⟩) c i) (((l.drop i).take n).length) (c - i)]) (k' := ((l.drop i).take n).length) (by kernel_rfl) (Mem.append (m := ((l.drop i).take n).length) (news := (((l.drop i).take n).map (Value.int .u8))) (Mem.addNil (e := 5) (size := 1) M9) 0 rfl (ET.of Try.underlying46 (by kernel_rfl) (by decide) (by decide) : ET Try.prog 46 5 (.int .u8 0) 1 1) (hwin.below (bel_keg HR.bel HR.low M9.ke) (Nat.le_refl _)).row (by rw [List.length_map, Nat.mul_one]) (fun u hu => by obtain ⟨z, _, rfl⟩ := List.mem_map.1 hu; rfl) (by omega) (by omega) (by omega)) ?_)
 intro a10 c11 w12 M13 hk14
 have hb15 : Below _ _ w12 := hk14.toBelow (fun i _ e => (by cases e))
 refine SL.nil (SM.back hb15 (SM.last (SU.run (d := 4) (v := .slice a10 (((l.drop i).take n).length) c11) (fun y hy => by kernel_rfl) (SU.done (SC.next (SC.keep (l' := [(4, .slice a10 (((l.drop i).take n).length) c11)]) [4] (by kernel_rfl) ?_))))))
 refine SC.ret (by kernel_rfl) (SQ.ret1 (t := 4) (v := .slice a10 (((l.drop i).take n).length) c11) (.inr rfl) (by kernel_rfl) (by kernel_rfl) ?_)
 have hrw : RdI .u8 w12 a10 c11 ((l.drop i).take n) := ⟨M13.rd 0 rfl, hwin.bd⟩
 refine ⟨a10, c11, rfl, hrw, hwl, fun h1 => ?_, HR.done M13 1 (i := i + n) (bad := false) rfl (by dsimp only; omega) rfl, M13.ke⟩
 obtain ⟨b1, o1, h2, _⟩ := hrw.cells
 exact ⟨b1, o1, (h2 (by omega)).1⟩
theorem refSome_walk (HR : RRd D w0 we g s) (n : Nat) (hn : n ≤ 1000000) (hz : Flat D.a ∨ 1 ≤ n) :
  Calls Try.prog 40 #[.pointer (some ⟨g, 0, none⟩), .int .i64 n] we fun e w' => ∃ a c, e = .returned (.slice a (rSome n s).1.length c) ∧ RdI .u8 w' a c (rSome n s).1 ∧ (1 ≤ n → (rSome n s).2 ≠ none → (rSome n s).1.length = n ∧ ∃ b o, a = some ⟨b, o, none⟩) ∧ ((rSome n s).2 = none → a = none ∧ c = 0 ∧ (rSome n s).1 = []) ∧ RRd D w0 w' g (rSome n s).2 ∧ Ke (· = g) we w' := by
 obtain ⟨a, c, l⟩ := D
 obtain ⟨i, bad, M0, hi, hs⟩ := HR.mem.rrOpen 0 rfl
 dsimp only at hi hs M0
 have nilR : ∀ w', RdI .u8 w' none 0 [] := fun w' => ⟨RdC.nilSlice _, fun x hx => (by cases hx)⟩
 by_cases hb : bad = true ∨ l.length - i < n
 ·have e := rSome_few (l := l.drop i) n (by rw [List.length_drop]; exact hb)
  rw [hs, e]
  have : Calls Try.prog 40 #[.pointer (some ⟨g, 0, none⟩), .int .i64 n] we fun e w' => e = .returned (.slice none 0 0) ∧ RRd ⟨a, c, l⟩ w0 w' g none ∧ Ke (· = g) we w' := by
   rcases hb with rfl | h
   ·exact refSome_bad a c l HR i M0 hi n hn
   ·cases bad with
    | true => exact refSome_bad a c l HR i M0 hi n hn
    | false => exact refSome_few a c l HR i M0 hi n hn h
  refine this.mono fun e w' ⟨e1, e2, e3⟩ => ?_
  exact ⟨none, 0, e1, nilR _, fun _ hh => absurd rfl hh, fun _ => ⟨rfl, rfl, rfl⟩, e2, e3⟩
 ·have hb1 : bad = false := by cases bad with | true => exact absurd (.inl rfl) hb | false => rfl
  have hb2 : n ≤ l.length - i := Nat.not_lt.1 fun h => hb (.inr h)
  subst hb1
  have e := drop_st hb2
  rw [hs, e]
  have hflat : Flat a := hz.elim id (fun h1 => flatA_of HR.rd (by dsimp only at hb2 ⊢; omega))
  rcases hflat with ha | ⟨b, o, ha⟩
  ·subst ha
   have h0 := HR.rd.row.nil rfl
   have hl0 : l = [] := List.length_eq_zero_iff.1 h0.1
   subst hl0
   obtain rfl : n = 0 := by simpa using hb2
   obtain rfl : i = 0 := by simpa using hi
   obtain rfl : c = 0 := h0.2
   refine (refSome_zero HR M0).mono fun e w' ⟨a', c', e1, e0, e2, e3⟩ => ?_
   exact ⟨a', c', e1, e0, fun h => (by omega), fun h => (by cases h), e2, e3⟩
  ·subst ha
   refine (refSome_much b o c l HR i M0 hi n hn hb2).mono fun e w' ⟨a', c', e1, e2, e3, e4, e5, e6⟩ => ?_
   exact ⟨a', c', e1, e2, fun h _ => ⟨e3, e4 h⟩, fun h => (by cases h), e5, e6⟩
theorem refByte_walk (HR : RRd D w0 we g s) :
  Calls Try.prog 43 #[.pointer (some ⟨g, 0, none⟩)] we fun e w' => e = .returned (.int .i64 (rByte s).1) ∧ RRd D w0 w' g (rByte s).2 ∧ Ke (· = g) we w' := by
 obtain ⟨l1, s1, hs1⟩ := some_list 1 s
 have M0 := HR.mem
 refine SC.enter (vs := [.pointer (some ⟨g, 0, none⟩)]) (n := 13) (l := [(0, .pointer (some ⟨g, 0, none⟩))]) Try.func43 (by kernel_rfl) (by kernel_rfl) (by kernel_rfl) (by kernel_rfl) (SC.seq (by kernel_rfl) (SC.region [0] (by kernel_rfl) (by kernel_rfl) (SL.run (d := 2) (v := .int .i64 0) (by kernel_rfl) (SL.nil (SC.next (SC.seq (by kernel_rfl) ?_))))))
 refine SC.region [0, 1, 2] (by kernel_rfl) (by kernel_rfl) (SL.run (d := 4) (v := .pointer (some ⟨g, 0, none⟩)) (by kernel_rfl) (SL.call (d := 5) (f := 40) (vs := [.pointer (some ⟨g, 0, none⟩), .int .i64 1]) (by kernel_rfl) (by kernel_rfl) (by have := refSome_walk (HR.now M0 0 rfl) 1 (by decide) (.inr (by decide)); rw [hs1] at this; exact this) ?_))
 rintro e w1 ⟨a1, c1, rfl, hr1, h1, h2, hR, hk⟩
 refine ⟨_, rfl, ?_⟩
 have M3 := M0.rrr 0 rfl hR hk
 cases s1 with
 | none =>
  obtain ⟨rfl, rfl, rfl⟩ := h2 rfl
  refine SL.run (d := 3) (v := .slice none 0 0) (by kernel_rfl) (SL.nil (SC.next (SC.seq (by kernel_rfl) (SC.seq (by kernel_rfl) (SC.region [0, 1, 2] (by kernel_rfl) (by kernel_rfl) (SL.run (d := 6) (v := .slice none 0 0) (by kernel_rfl) ?_))))))
  refine SL.builtin (d := 7) (b := .len) (ts := [46]) (ty := 3) (vs := [.slice none 0 0]) (v := .int .i64 0) (by kernel_rfl) (fun k => run_len Try.underlying46 rfl k) (SL.run (d := 8) (v := .bool true) (by kernel_rfl) (SL.nil (SC.next (SC.yes (by kernel_rfl) (SC.seq (by kernel_rfl) (SC.region [0] (by kernel_rfl) (by kernel_rfl) ?_))))))
  refine SL.run (d := 2) (v := .int .i64 0) (by kernel_rfl) (SL.nil (SC.next (SC.ret (by kernel_rfl) (SQ.seqExit (by nofun) (SQ.ret1 (t := 2) (v := .int .i64 0) (.inr rfl) (by kernel_rfl) (by kernel_rfl) ?_)))))
  have e1 : rByte s = (0, none) := by unfold rByte; rw [hs1]; rfl
  rw [e1]
  exact ⟨rfl, HR.now M3 0 rfl, M3.ke⟩
 | some r =>
  obtain ⟨hl, b, o, rfl⟩ := h1 (by decide) (by simp)
  obtain ⟨x, rfl⟩ := List.length_eq_one_iff.1 hl
  obtain ⟨hb0, hc0⟩ := rd_at hr1
  have hq0 := hc0 0 (by simp)
  have hx0 : 0 ≤ x ∧ x < 256 := bd_u8 (hr1.bd _ (by simp))
  have hB4 : Below w1.heap.size w1 w1 := Below.refl _ _
  refine SL.run (d := 3) (v := .slice (some ⟨b, o, none⟩) 1 c1) (by kernel_rfl) (SL.nil (SC.next (SC.seq (by kernel_rfl) (SC.seq (by kernel_rfl) (SC.region [0, 1, 2] (by kernel_rfl) (by kernel_rfl) (SL.run (d := 6) (v := .slice (some ⟨b, o, none⟩) 1 c1) (by kernel_rfl) ?_))))))
  refine SL.builtin (d := 7) (b := .len) (ts := [46]) (ty := 3) (vs := [.slice (some ⟨b, o, none⟩) 1 c1]) (v := .int .i64 1) (by kernel_rfl) (fun k => run_len Try.underlying46 rfl k) (SL.run (d := 8) (v := .bool false) (by kernel_rfl) (SL.nil (SC.next (SC.no (by kernel_rfl) (SC.skip (by kernel_rfl) (SC.next ?_))))))
  refine SC.seq (by kernel_rfl) (SC.region [0, 1, 2, 3, 4] (by kernel_rfl) (by kernel_rfl) (SL.run (d := 9) (v := .slice (some ⟨b, o, none⟩) 1 c1) (by kernel_rfl) (SL.index (d := 10) (t := 46) (e := 5) (b := b) (o := o) (len := 1) (cap := c1) (sz := 1) (k := .i64) (m := 0) 0 (by kernel_rfl) Try.underlying46 (by kernel_rfl) rfl (by omega) (SL.load (d := 11) (t := 5) (a := .pointer (some ⟨b, o + 0 * 1, none⟩)) (v := .int .u8 x) (by kernel_rfl) (ld_one ((hB4.cell (p := ⟨b, o + 0, none⟩) (hb0 (by simp))).trans hq0) Try.underlying5 rfl) (SL.int (d := 12) (q := .i64) (x := IntKind.wrap .i64 x) (y := x) (wr64 (by omega) (by omega) (by omega)) (by kernel_rfl) (SL.run (d := 2) (v := .int .i64 x) (by kernel_rfl) ?_))))))
  refine SL.nil (SC.next (SC.ret (by kernel_rfl) (SQ.ret1 (t := 2) (v := .int .i64 x) (.inr rfl) (by kernel_rfl) (by kernel_rfl) ?_)))
  have e1 : rByte s = (x, some r) := by unfold rByte; rw [hs1]; rfl
  rw [e1]
  exact ⟨rfl, HR.now M3 0 rfl, M3.ke⟩
set_option maxHeartbeats 1000000 in
theorem refWord8_walk (HR : RRd D w0 we g s) (m : Int) (hm0 : 0 ≤ m) (hm : m ≤ 4294967295) :
  Calls Try.prog 42 #[.pointer (some ⟨g, 0, none⟩), .int .u32 m] we fun e w' => e = .returned (.int .u32 (rNum m s).1) ∧ RRd D w0 w' g (rNum m s).2 ∧ Ke (· = g) we w' := by
 obtain ⟨l1, s1, hs1⟩ := some_list 4 s
 have M0 := HR.mem
 refine SC.enter (vs := [.pointer (some ⟨g, 0, none⟩), .int .u32 m]) (n := 34) (l := [(0, .pointer (some ⟨g, 0, none⟩)), (1, .int .u32 m)]) Try.func42 (by kernel_rfl) (by kernel_rfl) (by kernel_rfl) (by kernel_rfl) (SC.seq (by kernel_rfl) (SC.region [0] (by kernel_rfl) (by kernel_rfl) (SL.run (d := 4) (v := .int .u32 0) (by kernel_rfl) (SL.nil (SC.next (SC.seq (by kernel_rfl) ?_))))))
 refine SC.region [0, 1, 2] (by kernel_rfl) (by kernel_rfl) (SL.run (d := 8) (v := .pointer (some ⟨g, 0, none⟩)) (by kernel_rfl) (SL.call (d := 9) (f := 40) (vs := [.pointer (some ⟨g, 0, none⟩), .int .i64 4]) (by kernel_rfl) (by kernel_rfl) (by have := refSome_walk (HR.now M0 0 rfl) 4 (by decide) (.inr (by decide)); rw [hs1] at this; exact this) ?_))
 rintro e w1 ⟨a1, c1, rfl, hr1, h1, h2, hR, hk⟩
 refine ⟨_, rfl, ?_⟩
 have M3 := M0.rrr 0 rfl hR hk
 cases s1 with
 | none =>
  obtain ⟨rfl, rfl, rfl⟩ := h2 rfl
  refine SL.run (d := 5) (v := .slice none 0 0) (by kernel_rfl) (SL.nil (SC.next (SC.seq (by kernel_rfl) (SC.region [0] (by kernel_rfl) (by kernel_rfl) (SL.run (d := 6) (v := .int .u32 0) (by kernel_rfl) (SL.nil ?_))))))
  refine SC.next (SC.seq (by kernel_rfl) (SC.seq (by kernel_rfl) (SC.region [0] (by kernel_rfl) (by kernel_rfl) (SL.run (d := 7) (v := .int .i64 0) (by kernel_rfl) (SL.nil (SC.next ?_))))))
  refine SC.block (i := 0) (by kernel_rfl) (SC.loopA (X := Nat) (fun x => [(0, .pointer (some ⟨g, 0, none⟩)), (1, .int .u32 m), (4, .int .u32 0), (5, .slice none 0 0), (6, .int .u32 0), (7, .int .i64 x)]) (fun x wr => Mem ⟨we, (· = g)⟩ wr ([rrR D g none]) ∧ (x = 0)) (fun x => 5 - x) (PanOk.block (PanOk.seq PanOk.body)) (by kernel_rfl) 0 (by kernel_rfl) ⟨M3, rfl⟩ ?_)
  rintro j w9 ⟨M10, hI4⟩ Q5 ag6 ex7 pn8
  replace M10 : Mem ⟨we, (· = g)⟩ w9 ([rrR D g none]) := M10
  replace hI4 : j = 0 := hI4
  show SC _ _ _ _ _ [(0, .pointer (some ⟨g, 0, none⟩)), (1, .int .u32 m), (4, .int .u32 0), (5, .slice none 0 0), (6, .int .u32 0), (7, .int .i64 j)] _
  obtain rfl : j = 0 := hI4
  refine SC.seq (by kernel_rfl) (SC.seq (by kernel_rfl) (SC.region [0, 1, 2, 3] (by kernel_rfl) (by kernel_rfl) (SL.run (d := 10) (v := .int .i64 0) (by kernel_rfl) (SL.run (d := 11) (v := .slice none 0 0) (by kernel_rfl) (SL.builtin (d := 12) (b := .len) (ts := [46]) (ty := 3) (vs := [.slice none 0 0]) (v := .int .i64 0) (by kernel_rfl) (fun k => run_len Try.underlying46 rfl k) (SL.run (d := 13) (v := .bool false) (by kernel_rfl) ?_))))))
  refine SL.nil (SC.next (SC.no (by kernel_rfl) (SC.exit (i := 0) (by kernel_rfl) (SQ.seqExit (by nofun) (ex7 (by nofun) (SQ.blockHere ?_))))))
  refine SC.next (SC.seq (by kernel_rfl) (SC.seq (by kernel_rfl) (SC.region [0, 1, 2] (by kernel_rfl) (by kernel_rfl) (SL.run (d := 27) (v := .int .u32 0) (by kernel_rfl) (SL.run (d := 28) (v := .int .u32 m) (by kernel_rfl) ?_)))))
  rcases Bool.eq_false_or_eq_true (decide (m < (0 : Int))) with h11 | h11
  ·skip
   have ph11 : m < (0 : Int) := of_decide_eq_true h11
   obtain ⟨ri, rb, M12, rhi, _⟩ := M10.rrOpen 0 rfl
   refine SL.bool (d := 29) (x := (decide (m < (0 : Int)))) (y := true) h11 (by kernel_rfl) (SL.nil (SC.next (SC.yes (by kernel_rfl) (SC.seq (by kernel_rfl) (SC.region [0, 1, 2, 3] (by kernel_rfl) (by kernel_rfl) (SL.run (d := 30) (v := .pointer (some ⟨g, 0, none⟩)) (by kernel_rfl) ?_))))))
   refine SL.run (d := 31) (v := .pointer (some ⟨g, 0, none⟩)) (by kernel_rfl) (SL.run (d := 32) (v := .pointer (some ⟨g, 2, none⟩)) (by kernel_rfl) (SL.storeM (t := 4) (a := .pointer (some ⟨g, 2, none⟩)) (v := .bool true) (by kernel_rfl) (M12.st1 0 rfl 2 rfl 4 rfl (by kernel_rfl) rfl) ?_))
   intro w13 M14 hk15 shk15
   refine SL.nil (SC.next (SC.keep (l' := [(4, .int .u32 0), (6, .int .u32 0)]) [4, 6] (by kernel_rfl) (SC.seq (by kernel_rfl) (SC.region [0] (by kernel_rfl) (by kernel_rfl) (SL.run (d := 4) (v := .int .u32 0) (by kernel_rfl) (SL.nil ?_))))))
   refine SC.next (SC.ret (by kernel_rfl) (SQ.seqExit (by nofun) (SQ.ret1 (t := 4) (v := .int .u32 0) (.inr rfl) (by kernel_rfl) (by kernel_rfl) ?_)))
   have e0 : rWord s = (0, none) := by unfold rWord; rw [hs1]; rfl
   have e1 : rNum m s = (0, none) := by unfold rNum rCount; rw [e0]; exact if_pos ph11
   rw [e1]
   exact ⟨rfl, HR.done M14 0 (bad := true) rfl rhi rfl, M14.ke⟩
  ·skip
   have ph11 : ¬ (m < (0 : Int)) := of_decide_eq_false h11
   refine SL.bool (d := 29) (x := (decide (m < (0 : Int)))) (y := false) h11 (by kernel_rfl) (SL.nil (SC.next (SC.no (by kernel_rfl) (SC.skip (by kernel_rfl) (SC.next (SC.seq (by kernel_rfl) ?_))))))
   refine SC.region [0, 1] (by kernel_rfl) (by kernel_rfl) (SL.run (d := 33) (v := .int .u32 0) (by kernel_rfl) (SL.run (d := 4) (v := .int .u32 0) (by kernel_rfl) (SL.nil (SC.next (SC.ret (by kernel_rfl) (SQ.ret1 (t := 4) (v := .int .u32 0) (.inr rfl) (by kernel_rfl) (by kernel_rfl) ?_))))))
   have e0 : rWord s = (0, none) := by unfold rWord; rw [hs1]; rfl
   have e1 : rNum m s = rWord s := by unfold rNum rCount; rw [e0]; exact if_neg ph11
   rw [e1, e0]
   exact ⟨rfl, HR.now M10 0 rfl, M10.ke⟩
 | some r =>
  obtain ⟨hl, b, o, rfl⟩ := h1 (by decide) (by simp)
  obtain ⟨x0, x1, x2, x3, rfl⟩ := list4 hl
  obtain ⟨hb0, hc0⟩ := rd_at hr1
  have hq0 := hc0 0 (by simp)
  have hx0 : 0 ≤ x0 ∧ x0 < 256 := bd_u8 (hr1.bd _ (by simp))
  have hq1 := hc0 1 (by simp)
  have hx1 : 0 ≤ x1 ∧ x1 < 256 := bd_u8 (hr1.bd _ (by simp))
  have hq2 := hc0 2 (by simp)
  have hx2 : 0 ≤ x2 ∧ x2 < 256 := bd_u8 (hr1.bd _ (by simp))
  have hq3 := hc0 3 (by simp)
  have hx3 : 0 ≤ x3 ∧ x3 < 256 := bd_u8 (hr1.bd _ (by simp))
  have hB16 : Below w1.heap.size w1 w1 := Below.refl _ _
  refine SL.run (d := 5) (v := .slice (some ⟨b, o, none⟩) 4 c1) (by kernel_rfl) (SL.nil (SC.next (SC.seq (by kernel_rfl) (SC.region [0] (by kernel_rfl) (by kernel_rfl) (SL.run (d := 6) (v := .int .u32 0) (by kernel_rfl) (SL.nil ?_))))))
  refine SC.next (SC.seq (by kernel_rfl) (SC.seq (by kernel_rfl) (SC.region [0] (by kernel_rfl) (by kernel_rfl) (SL.run (d := 7) (v := .int .i64 0) (by kernel_rfl) (SL.nil (SC.next ?_))))))
  refine SC.block (i := 0) (by kernel_rfl) (SC.loopA (X := Nat) (fun x => [(0, .pointer (some ⟨g, 0, none⟩)), (1, .int .u32 m), (4, .int .u32 0), (5, .slice (some ⟨b, o, none⟩) 4 c1), (6, .int .u32 (partW x0 x1 x2 x3 x)), (7, .int .i64 x)]) (fun x wr => Mem ⟨we, (· = g)⟩ wr ([rrR D g (some r)]) ∧ (x ≤ 4) ∧ Below w1.heap.size w1 wr) (fun x => 5 - x) (PanOk.block (PanOk.seq PanOk.body)) (by kernel_rfl) 0 (by kernel_rfl) ⟨M3, Nat.zero_le _, hB16⟩ ?_)
  rintro j w22 ⟨M23, hI17, hB16⟩ Q18 ag19 ex20 pn21
  replace M23 : Mem ⟨we, (· = g)⟩ w22 ([rrR D g (some r)]) := M23
  replace hI17 : j ≤ 4 := hI17
  show SC _ _ _ _ _ [(0, .pointer (some ⟨g, 0, none⟩)), (1, .int .u32 m), (4, .int .u32 0), (5, .slice (some ⟨b, o, none⟩) 4 c1), (6, .int .u32 (partW x0 x1 x2 x3 j)), (7, .int .i64 j)] _
  refine SC.seq (by kernel_rfl) (SC.seq (by kernel_rfl) (SC.region [0, 1, 2, 3] (by kernel_rfl) (by kernel_rfl) (SL.run (d := 10) (v := .int .i64 j) (by kernel_rfl) (SL.run (d := 11) (v := .slice (some ⟨b, o, none⟩) 4 c1) (by kernel_rfl) (SL.builtin (d := 12) (b := .len) (ts := [46]) (ty := 3) (vs := [.slice (some ⟨b, o, none⟩) 4 c1]) (v := .int .i64 4) (by kernel_rfl) (fun k => run_len Try.underlying46 rfl k) ?_)))))
  rcases Bool.eq_false_or_eq_true (decide (((j : Nat) : Int) < (4 : Int))) with h24 | h24
  ·skip
   have ph24 : ((j : Nat) : Int) < (4 : Int) := of_decide_eq_true h24
   obtain rfl | rfl | rfl | rfl : j = 0 ∨ j = 1 ∨ j = 2 ∨ j = 3 := by omega
   ·skip
    refine SL.run (d := 13) (v := .bool true) (by kernel_rfl) (SL.nil (SC.next (SC.yes (by kernel_rfl) (SC.skip (by kernel_rfl) (SC.next (SC.seq (by kernel_rfl) ?_))))))
    refine SC.block (i := 1) (by kernel_rfl) (SC.region [0, 1, 2, 3, 4, 5, 6, 7, 8, 9, 10, 11] (by kernel_rfl) (by kernel_rfl) (SL.run (d := 16) (v := .int .u32 (partW x0 x1 x2 x3 0)) (by kernel_rfl) (SL.run (d := 17) (v := .slice (some ⟨b, o, none⟩) 4 c1) (by kernel_rfl) (SL.run (d := 18) (v := .int .i64 0) (by kernel_rfl) (SL.index (d := 19) (t := 46) (e := 5) (b := b) (o := o) (len := 4) (cap := c1) (sz := 1) (k := .i64) (m := 0) 0 (by kernel_rfl) Try.underlying46 (by kernel_rfl) rfl (by omega) (SL.load (d := 20) (t := 5) (a := .pointer (some ⟨b, o + 0 * 1, none⟩)) (v := .int .u8 x0) (by kernel_rfl) (ld_one ((hB16.cell (p := ⟨b, o + 0, none⟩) (hb0 (by simp))).trans hq0) Try.underlying5 rfl) ?_))))))
    refine SL.int (d := 21) (q := .u32) (x := IntKind.wrap .u32 x0) (y := x0) (wr32 (by omega) (by omega) (by omega)) (by kernel_rfl) (SL.run (d := 22) (v := .int .i64 0) (by kernel_rfl) (SL.run (d := 23) (v := .int .i64 0) (by kernel_rfl) (SL.run (d := 24) (v := .int .u64 0) (by kernel_rfl) (SL.int (d := 25) (q := .u32) (x := IntKind.wrap .u32 (x0 * 2 ^ 0)) (y := x0 * 2 ^ 0) (wr32 (by omega) (by omega) rfl) (by kernel_rfl) (SL.int (d := 26) (q := .u32) (x := IntKind.wrap .u32 ((partW x0 x1 x2 x3 0) + (x0 * 2 ^ 0))) (y := (partW x0 x1 x2 x3 1)) (wr32 (by simp only [partW]; omega) (by simp only [partW]; omega) rfl) (by kernel_rfl) (SL.run (d := 6) (v := .int .u32 (partW x0 x1 x2 x3 1)) (by kernel_rfl) ?_))))))
    refine SL.nil (SQ.blockNormal (SC.next (SC.region [0, 1, 2] (by kernel_rfl) (by kernel_rfl) (SL.run (d := 14) (v := .int .i64 0) (by kernel_rfl) (SL.run (d := 15) (v := .int .i64 1) (by kernel_rfl) (SL.run (d := 7) (v := .int .i64 1) (by kernel_rfl) ?_))))))
    refine SL.nil ?_
    exact ag19 1 (by kernel_rfl) ⟨M23, (by omega), hB16⟩ (by omega)
   ·skip
    refine SL.run (d := 13) (v := .bool true) (by kernel_rfl) (SL.nil (SC.next (SC.yes (by kernel_rfl) (SC.skip (by kernel_rfl) (SC.next (SC.seq (by kernel_rfl) ?_))))))
    refine SC.block (i := 1) (by kernel_rfl) (SC.region [0, 1, 2, 3, 4, 5, 6, 7, 8, 9, 10, 11] (by kernel_rfl) (by kernel_rfl) (SL.run (d := 16) (v := .int .u32 (partW x0 x1 x2 x3 1)) (by kernel_rfl) (SL.run (d := 17) (v := .slice (some ⟨b, o, none⟩) 4 c1) (by kernel_rfl) (SL.run (d := 18) (v := .int .i64 1) (by kernel_rfl) (SL.index (d := 19) (t := 46) (e := 5) (b := b) (o := o) (len := 4) (cap := c1) (sz := 1) (k := .i64) (m := 1) 1 (by kernel_rfl) Try.underlying46 (by kernel_rfl) rfl (by omega) (SL.load (d := 20) (t := 5) (a := .pointer (some ⟨b, o + 1 * 1, none⟩)) (v := .int .u8 x1) (by kernel_rfl) (ld_one ((hB16.cell (p := ⟨b, o + 1, none⟩) (hb0 (by simp))).trans hq1) Try.underlying5 rfl) ?_))))))
    refine SL.int (d := 21) (q := .u32) (x := IntKind.wrap .u32 x1) (y := x1) (wr32 (by omega) (by omega) (by omega)) (by kernel_rfl) (SL.run (d := 22) (v := .int .i64 1) (by kernel_rfl) (SL.run (d := 23) (v := .int .i64 8) (by kernel_rfl) (SL.run (d := 24) (v := .int .u64 8) (by kernel_rfl) (SL.int (d := 25) (q := .u32) (x := IntKind.wrap .u32 (x1 * 2 ^ 8)) (y := x1 * 2 ^ 8) (wr32 (by omega) (by omega) rfl) (by kernel_rfl) (SL.int (d := 26) (q := .u32) (x := IntKind.wrap .u32 ((partW x0 x1 x2 x3 1) + (x1 * 2 ^ 8))) (y := (partW x0 x1 x2 x3 2)) (wr32 (by simp only [partW]; omega) (by simp only [partW]; omega) rfl) (by kernel_rfl) (SL.run (d := 6) (v := .int .u32 (partW x0 x1 x2 x3 2)) (by kernel_rfl) ?_))))))
    refine SL.nil (SQ.blockNormal (SC.next (SC.region [0, 1, 2] (by kernel_rfl) (by kernel_rfl) (SL.run (d := 14) (v := .int .i64 1) (by kernel_rfl) (SL.run (d := 15) (v := .int .i64 2) (by kernel_rfl) (SL.run (d := 7) (v := .int .i64 2) (by kernel_rfl) ?_))))))
    refine SL.nil ?_
    exact ag19 2 (by kernel_rfl) ⟨M23, (by omega), hB16⟩ (by omega)
   ·skip
    refine SL.run (d := 13) (v := .bool true) (by kernel_rfl) (SL.nil (SC.next (SC.yes (by kernel_rfl) (SC.skip (by kernel_rfl) (SC.next (SC.seq (by kernel_rfl) ?_))))))
    refine SC.block (i := 1) (by kernel_rfl) (SC.region [0, 1, 2, 3, 4, 5, 6, 7, 8, 9, 10, 11] (by kernel_rfl) (by kernel_rfl) (SL.run (d := 16) (v := .int .u32 (partW x0 x1 x2 x3 2)) (by kernel_rfl) (SL.run (d := 17) (v := .slice (some ⟨b, o, none⟩) 4 c1) (by kernel_rfl) (SL.run (d := 18) (v := .int .i64 2) (by kernel_rfl) (SL.index (d := 19) (t := 46) (e := 5) (b := b) (o := o) (len := 4) (cap := c1) (sz := 1) (k := .i64) (m := 2) 2 (by kernel_rfl) Try.underlying46 (by kernel_rfl) rfl (by omega) (SL.load (d := 20) (t := 5) (a := .pointer (some ⟨b, o + 2 * 1, none⟩)) (v := .int .u8 x2) (by kernel_rfl) (ld_one ((hB16.cell (p := ⟨b, o + 2, none⟩) (hb0 (by simp))).trans hq2) Try.underlying5 rfl) ?_))))))
    refine SL.int (d := 21) (q := .u32) (x := IntKind.wrap .u32 x2) (y := x2) (wr32 (by omega) (by omega) (by omega)) (by kernel_rfl) (SL.run (d := 22) (v := .int .i64 2) (by kernel_rfl) (SL.run (d := 23) (v := .int .i64 16) (by kernel_rfl) (SL.run (d := 24) (v := .int .u64 16) (by kernel_rfl) (SL.int (d := 25) (q := .u32) (x := IntKind.wrap .u32 (x2 * 2 ^ 16)) (y := x2 * 2 ^ 16) (wr32 (by omega) (by omega) rfl) (by kernel_rfl) (SL.int (d := 26) (q := .u32) (x := IntKind.wrap .u32 ((partW x0 x1 x2 x3 2) + (x2 * 2 ^ 16))) (y := (partW x0 x1 x2 x3 3)) (wr32 (by simp only [partW]; omega) (by simp only [partW]; omega) rfl) (by kernel_rfl) (SL.run (d := 6) (v := .int .u32 (partW x0 x1 x2 x3 3)) (by kernel_rfl) ?_))))))
    refine SL.nil (SQ.blockNormal (SC.next (SC.region [0, 1, 2] (by kernel_rfl) (by kernel_rfl) (SL.run (d := 14) (v := .int .i64 2) (by kernel_rfl) (SL.run (d := 15) (v := .int .i64 3) (by kernel_rfl) (SL.run (d := 7) (v := .int .i64 3) (by kernel_rfl) ?_))))))
    refine SL.nil ?_
    exact ag19 3 (by kernel_rfl) ⟨M23, (by omega), hB16⟩ (by omega)
   ·skip
    refine SL.run (d := 13) (v := .bool true) (by kernel_rfl) (SL.nil (SC.next (SC.yes (by kernel_rfl) (SC.skip (by kernel_rfl) (SC.next (SC.seq (by kernel_rfl) ?_))))))
    refine SC.block (i := 1) (by kernel_rfl) (SC.region [0, 1, 2, 3, 4, 5, 6, 7, 8, 9, 10, 11] (by kernel_rfl) (by kernel_rfl) (SL.run (d := 16) (v := .int .u32 (partW x0 x1 x2 x3 3)) (by kernel_rfl) (SL.run (d := 17) (v := .slice (some ⟨b, o, none⟩) 4 c1) (by kernel_rfl) (SL.run (d := 18) (v := .int .i64 3) (by kernel_rfl) (SL.index (d := 19) (t := 46) (e := 5) (b := b) (o := o) (len := 4) (cap := c1) (sz := 1) (k := .i64) (m := 3) 3 (by kernel_rfl) Try.underlying46 (by kernel_rfl) rfl (by omega) (SL.load (d := 20) (t := 5) (a := .pointer (some ⟨b, o + 3 * 1, none⟩)) (v := .int .u8 x3) (by kernel_rfl) (ld_one ((hB16.cell (p := ⟨b, o + 3, none⟩) (hb0 (by simp))).trans hq3) Try.underlying5 rfl) ?_))))))
    refine SL.int (d := 21) (q := .u32) (x := IntKind.wrap .u32 x3) (y := x3) (wr32 (by omega) (by omega) (by omega)) (by kernel_rfl) (SL.run (d := 22) (v := .int .i64 3) (by kernel_rfl) (SL.run (d := 23) (v := .int .i64 24) (by kernel_rfl) (SL.run (d := 24) (v := .int .u64 24) (by kernel_rfl) (SL.int (d := 25) (q := .u32) (x := IntKind.wrap .u32 (x3 * 2 ^ 24)) (y := x3 * 2 ^ 24) (wr32 (by omega) (by omega) rfl) (by kernel_rfl) (SL.int (d := 26) (q := .u32) (x := IntKind.wrap .u32 ((partW x0 x1 x2 x3 3) + (x3 * 2 ^ 24))) (y := (partW x0 x1 x2 x3 4)) (wr32 (by simp only [partW]; omega) (by simp only [partW]; omega) rfl) (by kernel_rfl) (SL.run (d := 6) (v := .int .u32 (partW x0 x1 x2 x3 4)) (by kernel_rfl) ?_))))))
    refine SL.nil (SQ.blockNormal (SC.next (SC.region [0, 1, 2] (by kernel_rfl) (by kernel_rfl) (SL.run (d := 14) (v := .int .i64 3) (by kernel_rfl) (SL.run (d := 15) (v := .int .i64 4) (by kernel_rfl) (SL.run (d := 7) (v := .int .i64 4) (by kernel_rfl) ?_))))))
    refine SL.nil ?_
    exact ag19 4 (by kernel_rfl) ⟨M23, (by omega), hB16⟩ (by omega)
  ·skip
   have ph24 : ¬ (((j : Nat) : Int) < (4 : Int)) := of_decide_eq_false h24
   refine SL.bool (d := 13) (x := (decide (((j : Nat) : Int) < (4 : Int)))) (y := false) h24 (by kernel_rfl) (SL.nil (SC.next (SC.no (by kernel_rfl) (SC.exit (i := 0) (by kernel_rfl) (SQ.seqExit (by nofun) (ex20 (by nofun) ?_))))))
   refine SQ.blockHere (SC.next (SC.seq (by kernel_rfl) (SC.seq (by kernel_rfl) (SC.region [0, 1, 2] (by kernel_rfl) (by kernel_rfl) (SL.run (d := 27) (v := .int .u32 (partW x0 x1 x2 x3 j)) (by kernel_rfl) (SL.run (d := 28) (v := .int .u32 m) (by kernel_rfl) ?_))))))
   rcases Bool.eq_false_or_eq_true (decide (m < (partW x0 x1 x2 x3 j))) with h25 | h25
   ·skip
    have ph25 : m < (partW x0 x1 x2 x3 j) := of_decide_eq_true h25
    obtain ⟨ri, rb, M26, rhi, _⟩ := M23.rrOpen 0 rfl
    refine SL.bool (d := 29) (x := (decide (m < (partW x0 x1 x2 x3 j)))) (y := true) h25 (by kernel_rfl) (SL.nil (SC.next (SC.yes (by kernel_rfl) (SC.seq (by kernel_rfl) (SC.region [0, 1, 2, 3] (by kernel_rfl) (by kernel_rfl) (SL.run (d := 30) (v := .pointer (some ⟨g, 0, none⟩)) (by kernel_rfl) ?_))))))
    refine SL.run (d := 31) (v := .pointer (some ⟨g, 0, none⟩)) (by kernel_rfl) (SL.run (d := 32) (v := .pointer (some ⟨g, 2, none⟩)) (by kernel_rfl) (SL.storeM (t := 4) (a := .pointer (some ⟨g, 2, none⟩)) (v := .bool true) (by kernel_rfl) (M26.st1 0 rfl 2 rfl 4 rfl (by kernel_rfl) rfl) ?_))
    intro w27 M28 hk29 shk29
    refine SL.nil (SC.next (SC.keep (l' := [(4, .int .u32 0), (6, .int .u32 (partW x0 x1 x2 x3 j))]) [4, 6] (by kernel_rfl) (SC.seq (by kernel_rfl) (SC.region [0] (by kernel_rfl) (by kernel_rfl) (SL.run (d := 4) (v := .int .u32 0) (by kernel_rfl) (SL.nil ?_))))))
    refine SC.next (SC.ret (by kernel_rfl) (SQ.seqExit (by nofun) (SQ.ret1 (t := 4) (v := .int .u32 0) (.inr rfl) (by kernel_rfl) (by kernel_rfl) ?_)))
    have e0 : rWord s = (partW x0 x1 x2 x3 j, some r) := by unfold rWord; rw [hs1, partW_all _ _ _ _ (by omega)]
    have e1 : rNum m s = (0, none) := by unfold rNum rCount; rw [e0]; exact if_pos ph25
    rw [e1]
    exact ⟨rfl, HR.done M28 0 (bad := true) rfl rhi rfl, M28.ke⟩
   ·skip
    have ph25 : ¬ (m < (partW x0 x1 x2 x3 j)) := of_decide_eq_false h25
    refine SL.bool (d := 29) (x := (decide (m < (partW x0 x1 x2 x3 j)))) (y := false) h25 (by kernel_rfl) (SL.nil (SC.next (SC.no (by kernel_rfl) (SC.skip (by kernel_rfl) (SC.next (SC.seq (by kernel_rfl) ?_))))))
    refine SC.region [0, 1] (by kernel_rfl) (by kernel_rfl) (SL.run (d := 33) (v := .int .u32 (partW x0 x1 x2 x3 j)) (by kernel_rfl) (SL.run (d := 4) (v := .int .u32 (partW x0 x1 x2 x3 j)) (by kernel_rfl) (SL.nil (SC.next (SC.ret (by kernel_rfl) (SQ.ret1 (t := 4) (v := .int .u32 (partW x0 x1 x2 x3 j)) (.inr rfl) (by kernel_rfl) (by kernel_rfl) ?_))))))
    have e0 : rWord s = (partW x0 x1 x2 x3 j, some r) := by unfold rWord; rw [hs1, partW_all _ _ _ _ (by omega)]
    have e1 : rNum m s = rWord s := by unfold rNum rCount; rw [e0]; exact if_neg ph25
    rw [e1, e0]
    exact ⟨rfl, HR.now M23 0 rfl, M23.ke⟩
theorem refNm_walk (HR : RRd D w0 we g s) (hfl : Flat D.a) :
  Calls Try.prog 41 #[.pointer (some ⟨g, 0, none⟩)] we fun e w' => e = .returned (.string (rNm s).1) ∧ RRd D w0 w' g (rNm s).2 ∧ Ke (· = g) we w' := by
 have M0 := HR.mem
 refine SC.enter (vs := [.pointer (some ⟨g, 0, none⟩)]) (n := 8) (l := [(0, .pointer (some ⟨g, 0, none⟩))]) Try.func41 (by kernel_rfl) (by kernel_rfl) (by kernel_rfl) (by kernel_rfl) (SC.seq (by kernel_rfl) (SC.region [0] (by kernel_rfl) (by kernel_rfl) (SL.run (d := 2) (v := .string ⟨#[]⟩) (by kernel_rfl) (SL.nil (SC.next (SC.seq (by kernel_rfl) ?_))))))
 refine SC.region [0, 1, 2, 3, 4, 5] (by kernel_rfl) (by kernel_rfl) (SL.run (d := 3) (v := .pointer (some ⟨g, 0, none⟩)) (by kernel_rfl) (SL.run (d := 4) (v := .pointer (some ⟨g, 0, none⟩)) (by kernel_rfl) ?_))
 obtain ⟨v1, s1, hv1, bv1⟩ := rbyte_nat (HR.now M0 0 rfl)
 refine SL.call (d := 5) (f := 43) (vs := [.pointer (some ⟨g, 0, none⟩)]) (by kernel_rfl) (by kernel_rfl) (by have := refByte_walk (HR.now M0 0 rfl); rw [hv1] at this; exact this) ?_
 rintro e w1 ⟨rfl, hR, hk⟩
 refine ⟨_, rfl, ?_⟩
 have M3 := M0.rrr 0 rfl hR hk
 obtain ⟨l2, s2, hs2⟩ := some_list v1 s1
 refine SL.call (d := 6) (f := 40) (vs := [.pointer (some ⟨g, 0, none⟩), .int .i64 v1]) (by kernel_rfl) (by kernel_rfl) (by have := refSome_walk (HR.now M3 0 rfl) v1 (by omega) (.inl hfl); rw [hs2] at this; exact this) ?_
 rintro e w4 ⟨a2, c2, rfl, hr2, _, _, hR, hk⟩
 refine ⟨_, rfl, ?_⟩
 have M6 := M3.rrr 0 rfl hR hk
 refine SL.ex (d := 7) (m := convert 46 9 (.slice a2 l2.length c2)) (v := .string (strOf l2)) (by kernel_rfl) (run_str_of hr2 Try.underlying46 Try.underlying5 Try.underlying9) (SL.run (d := 2) (v := .string (strOf l2)) (by kernel_rfl) (SL.nil (SC.next (SC.ret (by kernel_rfl) (SQ.ret1 (t := 2) (v := .string (strOf l2)) (.inr rfl) (by kernel_rfl) (by kernel_rfl) ?_)))))
 rw [rNm_eq hv1 bv1 hs2]
 exact ⟨rfl, HR.now M6 0 rfl, M6.ke⟩
theorem refRf_walk (HR : RRd D w0 we g s) :
  Calls Try.prog 44 #[.pointer (some ⟨g, 0, none⟩)] we fun e w' => e = .returned (.agg #[.int .i64 (rRef s).1.mod, .int .i64 (rRef s).1.idx]) ∧ RRd D w0 w' g (rRef s).2 ∧ Ke (· = g) we w' := by
 have M0 := HR.mem
 refine SC.enter (vs := [.pointer (some ⟨g, 0, none⟩)]) (n := 10) (l := [(0, .pointer (some ⟨g, 0, none⟩))]) Try.func44 (by kernel_rfl) (by kernel_rfl) (by kernel_rfl) (by kernel_rfl) (SC.seq (by kernel_rfl) (SC.region [0] (by kernel_rfl) (by kernel_rfl) (SL.allocM (d := 2) (t := 30) (z := .agg #[.int .i64 0, .int .i64 0]) (cs := #[.int .i64 0, .int .i64 0]) M0 (by kernel_rfl) (by kernel_rfl) rfl ?_)))
 intro g1 w2 hb3 ⟨bg1, lg1⟩ M4
 refine SL.nil (SC.next (SC.seq (by kernel_rfl) (SC.region [0, 1, 2] (by kernel_rfl) (by kernel_rfl) (SL.run (d := 4) (v := .pointer (some ⟨g, 0, none⟩)) (by kernel_rfl) ?_))))
 obtain ⟨v1, s1, hv1, bv1⟩ := rbyte_nat (HR.now M4 1 rfl)
 refine SL.call (d := 5) (f := 43) (vs := [.pointer (some ⟨g, 0, none⟩)]) (by kernel_rfl) (by kernel_rfl) (by have := refByte_walk (HR.now M4 1 rfl); rw [hv1] at this; exact this) ?_
 rintro e w5 ⟨rfl, hR, hk⟩
 refine ⟨_, rfl, ?_⟩
 have M7 := M4.rrr 1 rfl hR hk
 refine SL.run (d := 3) (v := .int .i64 v1) (by kernel_rfl) (SL.nil (SC.next (SC.seq (by kernel_rfl) (SC.region [0, 1, 2, 3, 4] (by kernel_rfl) (by kernel_rfl) (SL.run (d := 6) (v := .int .i64 v1) (by kernel_rfl) (SL.run (d := 7) (v := .pointer (some ⟨g, 0, none⟩)) (by kernel_rfl) ?_))))))
 obtain ⟨v2, s2, hv2, bv2⟩ := rbyte_nat (HR.now M7 1 rfl)
 refine SL.call (d := 8) (f := 43) (vs := [.pointer (some ⟨g, 0, none⟩)]) (by kernel_rfl) (by kernel_rfl) (by have := refByte_walk (HR.now M7 1 rfl); rw [hv2] at this; exact this) ?_
 rintro e w8 ⟨rfl, hR, hk⟩
 refine ⟨_, rfl, ?_⟩
 have M10 := M7.rrr 1 rfl hR hk
 refine SL.build (d := 9) (t := 30) (ps := [(0, .int .i64 v1), (1, .int .i64 v2)]) (cs := #[.int .i64 v1, .int .i64 v2]) (by kernel_rfl) (by kernel_rfl) (SL.storeM (t := 30) (a := .pointer (some ⟨g1, 0, none⟩)) (v := .agg #[.int .i64 v1, .int .i64 v2]) (by kernel_rfl) (M10.stBox 0 rfl rfl (by kernel_rfl) rfl) ?_)
 intro w11 M12 hk13 shk13
 refine SL.nil (SC.next (SC.ret (by kernel_rfl) ?_))
 refine SQ.retE (P := Try.prog) (v := .agg #[.int .i64 v1, .int .i64 v2]) (.inr rfl) (fun a ha => ?_) ?_
 ·exact res_c (by kernel_rfl) (ha.getD (t := 2) (v := .pointer (some ⟨g1, 0, none⟩)) (by kernel_rfl)) (M12.ldBox 0 rfl Try.underlying30 rfl (by kernel_rfl))
 have e1 : rRef s = (⟨v1, v2⟩, s2) := by unfold rRef; rw [hv1]; dsimp only; rw [hv2]
 rw [e1]
 exact ⟨rfl, HR.now M12 1 rfl, M12.ke⟩
end Go.Proofs.Ytfnibpkojhgflaa
