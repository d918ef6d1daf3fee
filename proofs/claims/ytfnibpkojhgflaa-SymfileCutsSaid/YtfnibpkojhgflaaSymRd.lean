/- Walks: the reader of the program's symfile: some, byte, word, number, name, ref. Printed by bin/gen_symrd.py. -/
import Derived.Test.YtfnibpkojhgflaaSymRdr0
namespace Go.Proofs.Ytfnibpkojhgflaa
set_option linter.unusedVariables false
set_option linter.unusedSimpArgs false
open Go.RowKit
variable {w0 we : World} {g : Nat} {s : St}

theorem some_few (HR : Rdr w0 we g s) (a : Option Addr) (c : Nat) (l : List Int) (bad : Bool) (M0 : Mem ⟨we, (· = g)⟩ we [bx g (rdC a l c bad) 79]) (hr : RdI .u8 w0 a c l) (hf : Flat a) (n : Nat) (hn : n ≤ 1000000) (h : l.length < n) :
  Calls Try.prog 32 #[.pointer (some ⟨g, 0, none⟩), .int .i64 n] we fun e w' => e = .returned (.slice none 0 0) ∧ Rdr w0 w' g none ∧ Ke (· = g) we w' := by
 have hlen := hr.len
 have kn : decide (((l.length : Nat) : Int) < ((n : Nat) : Int)) = true := decide_eq_true (by omega)
 refine SC.enter (vs := [.pointer (some ⟨g, 0, none⟩), .int .i64 n]) (n := 39) (l := [(0, .pointer (some ⟨g, 0, none⟩)), (1, .int .i64 n)]) Try.func32 (by kernel_rfl) (by kernel_rfl) (by kernel_rfl) (by kernel_rfl) (SC.seq (by kernel_rfl) (SC.region [0] (by kernel_rfl) (by kernel_rfl) (SL.run (d := 4) (v := .slice none 0 0) (by kernel_rfl) (SL.nil (SC.next (SC.seq (by kernel_rfl) ?_))))))
 refine SC.seq (by kernel_rfl) (SC.region [0, 1, 2, 3, 4, 5, 6] (by kernel_rfl) (by kernel_rfl) (SL.run (d := 6) (v := .int .i64 n) (by kernel_rfl) (SL.run (d := 7) (v := .pointer (some ⟨g, 0, none⟩)) (by kernel_rfl) (SL.run (d := 8) (v := .pointer (some ⟨g, 0, none⟩)) (by kernel_rfl) (SL.run (d := 9) (v := .pointer (some ⟨g, 0, none⟩)) (by kernel_rfl) (SL.load (d := 10) (t := 46) (a := .pointer (some ⟨g, 0, none⟩)) (v := .slice a l.length c) (by kernel_rfl) (M0.ldCell 0 rfl (j := 0) (v := .slice a l.length c) rfl Try.underlying46 rfl) ?_))))))
 refine SL.builtin (d := 11) (b := .len) (ts := [46]) (ty := 3) (vs := [.slice a l.length c]) (v := .int .i64 ((l.length : Nat) : Int)) (by kernel_rfl) (fun k => run_len Try.underlying46 rfl k) (SL.bool (d := 12) (x := (decide (((l.length : Nat) : Int) < ((n : Nat) : Int)))) (y := true) kn (by kernel_rfl) (SL.nil (SC.next (SC.yes (by kernel_rfl) (SC.region [0, 1, 2, 3, 4, 5, 6, 7] (by kernel_rfl) (by kernel_rfl) (SL.run (d := 13) (v := .pointer (some ⟨g, 0, none⟩)) (by kernel_rfl) ?_))))))
 refine SL.run (d := 14) (v := .pointer (some ⟨g, 0, none⟩)) (by kernel_rfl) (SL.run (d := 15) (v := .pointer (some ⟨g, 0, none⟩)) (by kernel_rfl) (SL.run (d := 16) (v := .pointer (some ⟨g, 0, none⟩)) (by kernel_rfl) (SL.storeM (t := 46) (a := .pointer (some ⟨g, 0, none⟩)) (v := .slice none 0 0) (by kernel_rfl) (M0.st1 0 rfl 0 rfl 46 rfl (by kernel_rfl) rfl) ?_)))
 intro w1 M2 hk3 shk3
 refine SL.run (d := 17) (v := .pointer (some ⟨g, 0, none⟩)) (by kernel_rfl) (SL.run (d := 18) (v := .pointer (some ⟨g, 1, none⟩)) (by kernel_rfl) (SL.storeM (t := 4) (a := .pointer (some ⟨g, 1, none⟩)) (v := .bool true) (by kernel_rfl) (M2.st1 0 rfl 1 rfl 4 rfl (by kernel_rfl) rfl) ?_))
 intro w4 M5 hk6 shk6
 refine SL.nil (SC.next (SC.seq (by kernel_rfl) (SC.seq (by kernel_rfl) (SC.region [0, 1, 2, 3] (by kernel_rfl) (by kernel_rfl) (SL.run (d := 19) (v := .pointer (some ⟨g, 0, none⟩)) (by kernel_rfl) (SL.run (d := 20) (v := .pointer (some ⟨g, 0, none⟩)) (by kernel_rfl) ?_))))))
 refine SL.run (d := 21) (v := .pointer (some ⟨g, 1, none⟩)) (by kernel_rfl) (SL.load (d := 22) (t := 4) (a := .pointer (some ⟨g, 1, none⟩)) (v := .bool true) (by kernel_rfl) (M5.ldCell 0 rfl (j := 1) (v := .bool true) rfl Try.underlying4 rfl) (SL.nil (SC.next (SC.keep (l' := [(0, .pointer (some ⟨g, 0, none⟩)), (1, .int .i64 n), (4, .slice none 0 0), (22, .bool true)]) [0, 1, 4, 22] (by kernel_rfl) (SC.yes (by kernel_rfl) (SC.seq (by kernel_rfl) ?_))))))
 refine SC.region [0] (by kernel_rfl) (by kernel_rfl) (SL.run (d := 4) (v := .slice none 0 0) (by kernel_rfl) (SL.nil (SC.next (SC.ret (by kernel_rfl) (SQ.seqExit (by nofun) (SQ.ret1 (t := 4) (v := .slice none 0 0) (.inr rfl) (by kernel_rfl) (by kernel_rfl) ?_))))))
 exact ⟨rfl, HR.done M5 0 (a := none) (c := 0) (l := []) (bad := true) rfl ⟨RdC.nilSlice _, fun x hx => (by cases hx)⟩ (.inl rfl) rfl, M5.ke⟩
theorem some_bad (HR : Rdr w0 we g s) (a : Option Addr) (c : Nat) (l : List Int) (M0 : Mem ⟨we, (· = g)⟩ we [bx g (rdC a l c true) 79]) (hr : RdI .u8 w0 a c l) (hf : Flat a) (n : Nat) (hn : n ≤ 1000000) :
  Calls Try.prog 32 #[.pointer (some ⟨g, 0, none⟩), .int .i64 n] we fun e w' => e = .returned (.slice none 0 0) ∧ Rdr w0 w' g none ∧ Ke (· = g) we w' := by
 have hlen := hr.len
 refine SC.enter (vs := [.pointer (some ⟨g, 0, none⟩), .int .i64 n]) (n := 39) (l := [(0, .pointer (some ⟨g, 0, none⟩)), (1, .int .i64 n)]) Try.func32 (by kernel_rfl) (by kernel_rfl) (by kernel_rfl) (by kernel_rfl) (SC.seq (by kernel_rfl) (SC.region [0] (by kernel_rfl) (by kernel_rfl) (SL.run (d := 4) (v := .slice none 0 0) (by kernel_rfl) (SL.nil (SC.next (SC.seq (by kernel_rfl) ?_))))))
 refine SC.seq (by kernel_rfl) (SC.region [0, 1, 2, 3, 4, 5, 6] (by kernel_rfl) (by kernel_rfl) (SL.run (d := 6) (v := .int .i64 n) (by kernel_rfl) (SL.run (d := 7) (v := .pointer (some ⟨g, 0, none⟩)) (by kernel_rfl) (SL.run (d := 8) (v := .pointer (some ⟨g, 0, none⟩)) (by kernel_rfl) (SL.run (d := 9) (v := .pointer (some ⟨g, 0, none⟩)) (by kernel_rfl) (SL.load (d := 10) (t := 46) (a := .pointer (some ⟨g, 0, none⟩)) (v := .slice a l.length c) (by kernel_rfl) (M0.ldCell 0 rfl (j := 0) (v := .slice a l.length c) rfl Try.underlying46 rfl) ?_))))))
 refine SL.builtin (d := 11) (b := .len) (ts := [46]) (ty := 3) (vs := [.slice a l.length c]) (v := .int .i64 ((l.length : Nat) : Int)) (by kernel_rfl) (fun k => run_len Try.underlying46 rfl k) ?_
 rcases Bool.eq_false_or_eq_true (decide (((l.length : Nat) : Int) < ((n : Nat) : Int))) with h1 | h1
 ·skip
  have ph1 : ((l.length : Nat) : Int) < ((n : Nat) : Int) := of_decide_eq_true h1
  refine SL.bool (d := 12) (x := (decide (((l.length : Nat) : Int) < ((n : Nat) : Int)))) (y := true) h1 (by kernel_rfl) (SL.nil (SC.next (SC.yes (by kernel_rfl) (SC.region [0, 1, 2, 3, 4, 5, 6, 7] (by kernel_rfl) (by kernel_rfl) (SL.run (d := 13) (v := .pointer (some ⟨g, 0, none⟩)) (by kernel_rfl) (SL.run (d := 14) (v := .pointer (some ⟨g, 0, none⟩)) (by kernel_rfl) ?_))))))
  refine SL.run (d := 15) (v := .pointer (some ⟨g, 0, none⟩)) (by kernel_rfl) (SL.run (d := 16) (v := .pointer (some ⟨g, 0, none⟩)) (by kernel_rfl) (SL.storeM (t := 46) (a := .pointer (some ⟨g, 0, none⟩)) (v := .slice none 0 0) (by kernel_rfl) (M0.st1 0 rfl 0 rfl 46 rfl (by kernel_rfl) rfl) ?_))
  intro w2 M3 hk4 shk4
  refine SL.run (d := 17) (v := .pointer (some ⟨g, 0, none⟩)) (by kernel_rfl) (SL.run (d := 18) (v := .pointer (some ⟨g, 1, none⟩)) (by kernel_rfl) (SL.storeM (t := 4) (a := .pointer (some ⟨g, 1, none⟩)) (v := .bool true) (by kernel_rfl) (M3.st1 0 rfl 1 rfl 4 rfl (by kernel_rfl) rfl) ?_))
  intro w5 M6 hk7 shk7
  refine SL.nil (SC.next (SC.seq (by kernel_rfl) (SC.seq (by kernel_rfl) (SC.region [0, 1, 2, 3] (by kernel_rfl) (by kernel_rfl) (SL.run (d := 19) (v := .pointer (some ⟨g, 0, none⟩)) (by kernel_rfl) (SL.run (d := 20) (v := .pointer (some ⟨g, 0, none⟩)) (by kernel_rfl) ?_))))))
  refine SL.run (d := 21) (v := .pointer (some ⟨g, 1, none⟩)) (by kernel_rfl) (SL.load (d := 22) (t := 4) (a := .pointer (some ⟨g, 1, none⟩)) (v := .bool true) (by kernel_rfl) (M6.ldCell 0 rfl (j := 1) (v := .bool true) rfl Try.underlying4 rfl) (SL.nil (SC.next (SC.keep (l' := [(0, .pointer (some ⟨g, 0, none⟩)), (1, .int .i64 n), (4, .slice none 0 0), (22, .bool true)]) [0, 1, 4, 22] (by kernel_rfl) (SC.yes (by kernel_rfl) (SC.seq (by kernel_rfl) ?_))))))
  refine SC.region [0] (by kernel_rfl) (by kernel_rfl) (SL.run (d := 4) (v := .slice none 0 0) (by kernel_rfl) (SL.nil (SC.next (SC.ret (by kernel_rfl) (SQ.seqExit (by nofun) (SQ.ret1 (t := 4) (v := .slice none 0 0) (.inr rfl) (by kernel_rfl) (by kernel_rfl) ?_))))))
  exact ⟨rfl, HR.done M6 0 (a := none) (c := 0) (l := []) (bad := true) rfl ⟨RdC.nilSlice _, fun x hx => (by cases hx)⟩ (.inl rfl) rfl, M6.ke⟩
 ·skip
  have ph1 : ¬ (((l.length : Nat) : Int) < ((n : Nat) : Int)) := of_decide_eq_false h1
  refine SL.bool (d := 12) (x := (decide (((l.length : Nat) : Int) < ((n : Nat) : Int)))) (y := false) h1 (by kernel_rfl) (SL.nil (SC.next (SC.no (by kernel_rfl) (SC.skip (by kernel_rfl) (SC.next (SC.seq (by kernel_rfl) ?_))))))
  refine SC.seq (by kernel_rfl) (SC.region [0, 1, 2, 3] (by kernel_rfl) (by kernel_rfl) (SL.run (d := 19) (v := .pointer (some ⟨g, 0, none⟩)) (by kernel_rfl) (SL.run (d := 20) (v := .pointer (some ⟨g, 0, none⟩)) (by kernel_rfl) (SL.run (d := 21) (v := .pointer (some ⟨g, 1, none⟩)) (by kernel_rfl) (SL.load (d := 22) (t := 4) (a := .pointer (some ⟨g, 1, none⟩)) (v := .bool true) (by kernel_rfl) (M0.ldCell 0 rfl (j := 1) (v := .bool true) rfl Try.underlying4 rfl) (SL.nil ?_))))))
  refine SC.next (SC.yes (by kernel_rfl) (SC.seq (by kernel_rfl) (SC.region [0] (by kernel_rfl) (by kernel_rfl) (SL.run (d := 4) (v := .slice none 0 0) (by kernel_rfl) (SL.nil (SC.next ?_))))))
  refine SC.ret (by kernel_rfl) (SQ.seqExit (by nofun) (SQ.ret1 (t := 4) (v := .slice none 0 0) (.inr rfl) (by kernel_rfl) (by kernel_rfl) ?_))
  exact ⟨rfl, HR.done M0 0 (a := a) (c := c) (l := l) (bad := true) rfl hr hf rfl, M0.ke⟩
theorem some_zero (HR : Rdr w0 we g s) (M0 : Mem ⟨we, (· = g)⟩ we [bx g (rdC none [] 0 false) 79]) :
  Calls Try.prog 32 #[.pointer (some ⟨g, 0, none⟩), .int .i64 0] we fun e w' => e = .returned (.slice none 0 0) ∧ Rdr w0 w' g (some []) ∧ Ke (· = g) we w' := by
 refine SC.enter (vs := [.pointer (some ⟨g, 0, none⟩), .int .i64 0]) (n := 39) (l := [(0, .pointer (some ⟨g, 0, none⟩)), (1, .int .i64 0)]) Try.func32 (by kernel_rfl) (by kernel_rfl) (by kernel_rfl) (by kernel_rfl) (SC.seq (by kernel_rfl) (SC.region [0] (by kernel_rfl) (by kernel_rfl) (SL.run (d := 4) (v := .slice none 0 0) (by kernel_rfl) (SL.nil (SC.next (SC.seq (by kernel_rfl) ?_))))))
 refine SC.seq (by kernel_rfl) (SC.region [0, 1, 2, 3, 4, 5, 6] (by kernel_rfl) (by kernel_rfl) (SL.run (d := 6) (v := .int .i64 0) (by kernel_rfl) (SL.run (d := 7) (v := .pointer (some ⟨g, 0, none⟩)) (by kernel_rfl) (SL.run (d := 8) (v := .pointer (some ⟨g, 0, none⟩)) (by kernel_rfl) (SL.run (d := 9) (v := .pointer (some ⟨g, 0, none⟩)) (by kernel_rfl) (SL.load (d := 10) (t := 46) (a := .pointer (some ⟨g, 0, none⟩)) (v := .slice none 0 0) (by kernel_rfl) (M0.ldCell 0 rfl (j := 0) (v := .slice none 0 0) rfl Try.underlying46 rfl) ?_))))))
 refine SL.builtin (d := 11) (b := .len) (ts := [46]) (ty := 3) (vs := [.slice none 0 0]) (v := .int .i64 0) (by kernel_rfl) (fun k => run_len Try.underlying46 rfl k) (SL.run (d := 12) (v := .bool false) (by kernel_rfl) (SL.nil (SC.next (SC.no (by kernel_rfl) (SC.skip (by kernel_rfl) (SC.next ?_))))))
 refine SC.seq (by kernel_rfl) (SC.seq (by kernel_rfl) (SC.region [0, 1, 2, 3] (by kernel_rfl) (by kernel_rfl) (SL.run (d := 19) (v := .pointer (some ⟨g, 0, none⟩)) (by kernel_rfl) (SL.run (d := 20) (v := .pointer (some ⟨g, 0, none⟩)) (by kernel_rfl) (SL.run (d := 21) (v := .pointer (some ⟨g, 1, none⟩)) (by kernel_rfl) (SL.load (d := 22) (t := 4) (a := .pointer (some ⟨g, 1, none⟩)) (v := .bool false) (by kernel_rfl) (M0.ldCell 0 rfl (j := 1) (v := .bool false) rfl Try.underlying4 rfl) ?_))))))
 refine SL.nil (SC.next (SC.no (by kernel_rfl) (SC.skip (by kernel_rfl) (SC.next (SC.seq (by kernel_rfl) (SC.region [0, 1, 2, 3, 4, 5, 6] (by kernel_rfl) (by kernel_rfl) ?_))))))
 refine SL.run (d := 23) (v := .pointer (some ⟨g, 0, none⟩)) (by kernel_rfl) (SL.run (d := 24) (v := .pointer (some ⟨g, 0, none⟩)) (by kernel_rfl) (SL.run (d := 25) (v := .pointer (some ⟨g, 0, none⟩)) (by kernel_rfl) (SL.load (d := 26) (t := 46) (a := .pointer (some ⟨g, 0, none⟩)) (v := .slice none 0 0) (by kernel_rfl) (M0.ldCell 0 rfl (j := 0) (v := .slice none 0 0) rfl Try.underlying46 rfl) (SL.run (d := 27) (v := .int .i64 0) (by kernel_rfl) (SL.ex (d := 28) (m := Instr.sliceAt 46 (.slice none 0 0) none (some (.int .i64 0)) none) (v := .slice none 0 0) (by kernel_rfl) (cut_nil (k := .i64) Try.underlying46 (by kernel_rfl) (.inl rfl) (.inr rfl)) (SL.run (d := 5) (v := .slice none 0 0) (by kernel_rfl) ?_))))))
 refine SL.nil (SC.next (SC.keep (l' := [(0, .pointer (some ⟨g, 0, none⟩)), (1, .int .i64 0), (4, .slice none 0 0), (5, .slice none 0 0)]) [0, 1, 4, 5] (by kernel_rfl) (SC.seq (by kernel_rfl) (SC.region [0, 1, 2, 3, 4, 5, 6, 7, 8, 9] (by kernel_rfl) (by kernel_rfl) (SL.run (d := 29) (v := .pointer (some ⟨g, 0, none⟩)) (by kernel_rfl) (SL.run (d := 30) (v := .pointer (some ⟨g, 0, none⟩)) (by kernel_rfl) ?_))))))
 refine SL.run (d := 31) (v := .pointer (some ⟨g, 0, none⟩)) (by kernel_rfl) (SL.run (d := 32) (v := .pointer (some ⟨g, 0, none⟩)) (by kernel_rfl) (SL.load (d := 33) (t := 46) (a := .pointer (some ⟨g, 0, none⟩)) (v := .slice none 0 0) (by kernel_rfl) (M0.ldCell 0 rfl (j := 0) (v := .slice none 0 0) rfl Try.underlying46 rfl) (SL.run (d := 34) (v := .int .i64 0) (by kernel_rfl) (SL.ex (d := 35) (m := Instr.sliceAt 46 (.slice none 0 0) (some (.int .i64 0)) none none) (v := .slice none 0 0) (by kernel_rfl) (cut_nil (k := .i64) Try.underlying46 (by kernel_rfl) (.inr rfl) (.inl rfl)) (SL.run (d := 36) (v := .pointer (some ⟨g, 0, none⟩)) (by kernel_rfl) (SL.run (d := 37) (v := .pointer (some ⟨g, 0, none⟩)) (by kernel_rfl) ?_))))))
 refine SL.storeM (t := 46) (a := .pointer (some ⟨g, 0, none⟩)) (v := .slice none 0 0) (by kernel_rfl) (M0.st1 0 rfl 0 rfl 46 rfl (by kernel_rfl) rfl) ?_
 intro w1 M2 hk3 shk3
 refine SL.nil (SC.next (SC.seq (by kernel_rfl) (SC.region [0, 1] (by kernel_rfl) (by kernel_rfl) (SL.run (d := 38) (v := .slice none 0 0) (by kernel_rfl) (SL.run (d := 4) (v := .slice none 0 0) (by kernel_rfl) (SL.nil ?_))))))
 refine SC.next (SC.ret (by kernel_rfl) (SQ.ret1 (t := 4) (v := .slice none 0 0) (.inr rfl) (by kernel_rfl) (by kernel_rfl) ?_))
 exact ⟨rfl, HR.done M2 0 (a := none) (c := 0) (l := []) (bad := false) rfl ⟨RdC.nilSlice _, fun x hx => (by cases hx)⟩ (.inl rfl) rfl, M2.ke⟩
theorem some_much (HR : Rdr w0 we g s) (b o : Nat) (c : Nat) (l : List Int) (M0 : Mem ⟨we, (· = g)⟩ we [bx g (rdC (some ⟨b, o, none⟩) l c false) 79]) (hr : RdI .u8 w0 (some ⟨b, o, none⟩) c l) (n : Nat) (hn : n ≤ 1000000) (h : n ≤ l.length) :
  Calls Try.prog 32 #[.pointer (some ⟨g, 0, none⟩), .int .i64 n] we fun e w' => ∃ b o c, e = .returned (.slice (some ⟨b, o, none⟩) n c) ∧ RdI .u8 w0 (some ⟨b, o, none⟩) c (l.take n) ∧ (l.take n).length = n ∧ Rdr w0 w' g (some (l.drop n)) ∧ Ke (· = g) we w' := by
 have hlen := hr.len
 have hcap := hr.row.cap
 unfold maxLen at hcap
 have hle := hr.row.le
 have kn : decide (((l.length : Nat) : Int) < ((n : Nat) : Int)) = false := decide_eq_false (by omega)
 refine SC.enter (vs := [.pointer (some ⟨g, 0, none⟩), .int .i64 n]) (n := 39) (l := [(0, .pointer (some ⟨g, 0, none⟩)), (1, .int .i64 n)]) Try.func32 (by kernel_rfl) (by kernel_rfl) (by kernel_rfl) (by kernel_rfl) (SC.seq (by kernel_rfl) (SC.region [0] (by kernel_rfl) (by kernel_rfl) (SL.run (d := 4) (v := .slice none 0 0) (by kernel_rfl) (SL.nil (SC.next (SC.seq (by kernel_rfl) ?_))))))
 refine SC.seq (by kernel_rfl) (SC.region [0, 1, 2, 3, 4, 5, 6] (by kernel_rfl) (by kernel_rfl) (SL.run (d := 6) (v := .int .i64 n) (by kernel_rfl) (SL.run (d := 7) (v := .pointer (some ⟨g, 0, none⟩)) (by kernel_rfl) (SL.run (d := 8) (v := .pointer (some ⟨g, 0, none⟩)) (by kernel_rfl) (SL.run (d := 9) (v := .pointer (some ⟨g, 0, none⟩)) (by kernel_rfl) (SL.load (d := 10) (t := 46) (a := .pointer (some ⟨g, 0, none⟩)) (v := .slice (some ⟨b, o, none⟩) l.length c) (by kernel_rfl) (M0.ldCell 0 rfl (j := 0) (v := .slice (some ⟨b, o, none⟩) l.length c) rfl Try.underlying46 rfl) ?_))))))
 refine SL.builtin (d := 11) (b := .len) (ts := [46]) (ty := 3) (vs := [.slice (some ⟨b, o, none⟩) l.length c]) (v := .int .i64 ((l.length : Nat) : Int)) (by kernel_rfl) (fun k => run_len Try.underlying46 rfl k) (SL.bool (d := 12) (x := (decide (((l.length : Nat) : Int) < ((n : Nat) : Int)))) (y := false) kn (by kernel_rfl) (SL.nil (SC.next (SC.no (by kernel_rfl) (SC.skip (by kernel_rfl) (SC.next ?_))))))
 refine SC.seq (by kernel_rfl) (SC.seq (by kernel_rfl) (SC.region [0, 1, 2, 3] (by kernel_rfl) (by kernel_rfl) (SL.run (d := 19) (v := .pointer (some ⟨g, 0, none⟩)) (by kernel_rfl) (SL.run (d := 20) (v := .pointer (some ⟨g, 0, none⟩)) (by kernel_rfl) (SL.run (d := 21) (v := .pointer (some ⟨g, 1, none⟩)) (by kernel_rfl) (SL.load (d := 22) (t := 4) (a := .pointer (some ⟨g, 1, none⟩)) (v := .bool false) (by kernel_rfl) (M0.ldCell 0 rfl (j := 1) (v := .bool false) rfl Try.underlying4 rfl) ?_))))))
 refine SL.nil (SC.next (SC.no (by kernel_rfl) (SC.skip (by kernel_rfl) (SC.next (SC.seq (by kernel_rfl) (SC.region [0, 1, 2, 3, 4, 5, 6] (by kernel_rfl) (by kernel_rfl) ?_))))))
 refine SL.run (d := 23) (v := .pointer (some ⟨g, 0, none⟩)) (by kernel_rfl) (SL.run (d := 24) (v := .pointer (some ⟨g, 0, none⟩)) (by kernel_rfl) (SL.run (d := 25) (v := .pointer (some ⟨g, 0, none⟩)) (by kernel_rfl) (SL.load (d := 26) (t := 46) (a := .pointer (some ⟨g, 0, none⟩)) (v := .slice (some ⟨b, o, none⟩) l.length c) (by kernel_rfl) (M0.ldCell 0 rfl (j := 0) (v := .slice (some ⟨b, o, none⟩) l.length c) rfl Try.underlying46 rfl) (SL.run (d := 27) (v := .int .i64 n) (by kernel_rfl) (SL.ex (d := 28) (m := Instr.sliceAt 46 (.slice (some ⟨b, o, none⟩) l.length c) none (some (.int .i64 n)) none) (v := .slice (some ⟨b, o, none⟩) n c) (by kernel_rfl) (cut_h n Try.underlying46 (by kernel_rfl) rfl (by have := hr.row.le; omega)) ?_)))))
 refine SL.run (d := 5) (v := .slice (some ⟨b, o, none⟩) n c) (by kernel_rfl) (SL.nil (SC.next (SC.keep (l' := [(0, .pointer (some ⟨g, 0, none⟩)), (1, .int .i64 n), (4, .slice none 0 0), (5, .slice (some ⟨b, o, none⟩) n c)]) [0, 1, 4, 5] (by kernel_rfl) (SC.seq (by kernel_rfl) (SC.region [0, 1, 2, 3, 4, 5, 6, 7, 8, 9] (by kernel_rfl) (by kernel_rfl) (SL.run (d := 29) (v := .pointer (some ⟨g, 0, none⟩)) (by kernel_rfl) ?_))))))
 refine SL.run (d := 30) (v := .pointer (some ⟨g, 0, none⟩)) (by kernel_rfl) (SL.run (d := 31) (v := .pointer (some ⟨g, 0, none⟩)) (by kernel_rfl) (SL.run (d := 32) (v := .pointer (some ⟨g, 0, none⟩)) (by kernel_rfl) (SL.load (d := 33) (t := 46) (a := .pointer (some ⟨g, 0, none⟩)) (v := .slice (some ⟨b, o, none⟩) l.length c) (by kernel_rfl) (M0.ldCell 0 rfl (j := 0) (v := .slice (some ⟨b, o, none⟩) l.length c) rfl Try.underlying46 rfl) (SL.run (d := 34) (v := .int .i64 n) (by kernel_rfl) (SL.ex (d := 35) (m := Instr.sliceAt 46 (.slice (some ⟨b, o, none⟩) l.length c) (some (.int .i64 n)) none none) (v := .slice (if c = n then (some ⟨b, o, none⟩) else (some ⟨b, o + n, none⟩)) ((l.drop n).length) (c - n)) (by kernel_rfl) (by rw [List.length_drop]; exact (cut_l n Try.underlying46 (by kernel_rfl) rfl (by omega))) ?_)))))
 refine SL.run (d := 36) (v := .pointer (some ⟨g, 0, none⟩)) (by kernel_rfl) (SL.run (d := 37) (v := .pointer (some ⟨g, 0, none⟩)) (by kernel_rfl) (SL.storeM (t := 46) (a := .pointer (some ⟨g, 0, none⟩)) (v := .slice (if c = n then (some ⟨b, o, none⟩) else (some ⟨b, o + n, none⟩)) ((l.drop n).length) (c - n)) (by kernel_rfl) (M0.st1 0 rfl 0 rfl 46 rfl (by kernel_rfl) rfl) ?_))
 intro w1 M2 hk3 shk3
 refine SL.nil (SC.next (SC.seq (by kernel_rfl) (SC.region [0, 1] (by kernel_rfl) (by kernel_rfl) (SL.run (d := 38) (v := .slice (some ⟨b, o, none⟩) n c) (by kernel_rfl) (SL.run (d := 4) (v := .slice (some ⟨b, o, none⟩) n c) (by kernel_rfl) (SL.nil ?_))))))
 refine SC.next (SC.ret (by kernel_rfl) (SQ.ret1 (t := 4) (v := .slice (some ⟨b, o, none⟩) n c) (.inr rfl) (by kernel_rfl) (by kernel_rfl) ?_))
 have hd := hr.drop n h
 have ht := hr.take n h
 exact ⟨b, o, c, rfl, ht.1, ht.2, HR.done M2 0 rfl hd.1 (by split <;> exact .inr ⟨_, _, rfl⟩) rfl, M2.ke⟩
/-- the next bytes. -/
theorem some_walk (HR : Rdr w0 we g s) (n : Nat) (hn : n ≤ 1000000) :
  Calls Try.prog 32 #[.pointer (some ⟨g, 0, none⟩), .int .i64 n] we fun e w' => ∃ a c, e = .returned (.slice a (rSome n s).1.length c) ∧ RdI .u8 w0 a c (rSome n s).1 ∧ (1 ≤ n → (rSome n s).2 ≠ none → (rSome n s).1.length = n ∧ ∃ b o, a = some ⟨b, o, none⟩) ∧ ((rSome n s).2 = none → a = none ∧ c = 0 ∧ (rSome n s).1 = []) ∧ Rdr w0 w' g (rSome n s).2 ∧ Ke (· = g) we w' := by
 obtain ⟨a, c, l, bad, M0, hr, hf, hs⟩ := HR.mem.rdOpen 0 rfl
 have nilR : RdI .u8 w0 none 0 [] := ⟨RdC.nilSlice _, fun x hx => (by cases hx)⟩
 by_cases hb : bad = true ∨ l.length < n
 ·have e := rSome_few n hb
  rw [hs, e]
  have : Calls Try.prog 32 #[.pointer (some ⟨g, 0, none⟩), .int .i64 n] we fun e w' => e = .returned (.slice none 0 0) ∧ Rdr w0 w' g none ∧ Ke (· = g) we w' := by
   rcases hb with rfl | h
   ·exact some_bad HR a c l M0 hr hf n hn
   ·exact some_few HR a c l bad M0 hr hf n hn h
  refine this.mono fun e w' ⟨e1, e2, e3⟩ => ?_
  exact ⟨none, 0, e1, nilR, fun _ hh => absurd rfl hh, fun _ => ⟨rfl, rfl, rfl⟩, e2, e3⟩
 ·have hb1 : bad = false := by cases bad with | true => exact absurd (.inl rfl) hb | false => rfl
  have hb2 : n ≤ l.length := Nat.not_lt.1 fun h => hb (.inr h)
  subst hb1
  have e := rSome_much n hb2
  rw [hs, e]
  rcases hf with rfl | ⟨b, o, rfl⟩
  ·have h0 := hr.row.nil rfl
   have hl0 : l = [] := List.length_eq_zero_iff.1 (by simpa using h0.1)
   subst hl0
   obtain rfl : n = 0 := by simpa using hb2
   obtain rfl : c = 0 := h0.2
   refine (some_zero HR M0).mono fun e w' ⟨e1, e2, e3⟩ => ?_
   exact ⟨none, 0, e1, nilR, fun h => (by omega), fun h => (by cases h), e2, e3⟩
  ·refine (some_much HR b o c l M0 hr n hn hb2).mono fun e w' ⟨b, o, c, e1, e2, e3, e4, e5⟩ => ?_
   exact ⟨_, c, by rw [e3]; exact e1, e2, fun _ _ => ⟨e3, b, o, rfl⟩, fun h => (by cases h), e4, e5⟩
theorem byte_walk (HR : Rdr w0 we g s) :
  Calls Try.prog 36 #[.pointer (some ⟨g, 0, none⟩)] we fun e w' => e = .returned (.int .i64 (rByte s).1) ∧ Rdr w0 w' g (rByte s).2 ∧ Ke (· = g) we w' := by
 obtain ⟨l1, s1, hs1⟩ := some_list 1 s
 have M0 := HR.mem
 refine SC.enter (vs := [.pointer (some ⟨g, 0, none⟩)]) (n := 12) (l := [(0, .pointer (some ⟨g, 0, none⟩))]) Try.func36 (by kernel_rfl) (by kernel_rfl) (by kernel_rfl) (by kernel_rfl) (SC.seq (by kernel_rfl) (SC.region [0] (by kernel_rfl) (by kernel_rfl) (SL.run (d := 2) (v := .int .i64 0) (by kernel_rfl) (SL.nil (SC.next (SC.seq (by kernel_rfl) ?_))))))
 refine SC.seq (by kernel_rfl) (SC.region [0, 1, 2] (by kernel_rfl) (by kernel_rfl) (SL.run (d := 4) (v := .pointer (some ⟨g, 0, none⟩)) (by kernel_rfl) (SL.call (d := 5) (f := 32) (vs := [.pointer (some ⟨g, 0, none⟩), .int .i64 1]) (by kernel_rfl) (by kernel_rfl) (by have := some_walk (HR.now M0 0 rfl) 1 (by decide); rw [hs1] at this; exact this) ?_)))
 rintro e w1 ⟨a1, c1, rfl, hr1, h1, h2, hR, hk⟩
 refine ⟨_, rfl, ?_⟩
 have M3 := M0.rdr 0 rfl hR hk
 cases s1 with
 | none =>
  obtain ⟨rfl, rfl, rfl⟩ := h2 rfl
  refine SL.run (d := 3) (v := .slice none 0 0) (by kernel_rfl) (SL.nil (SC.next (SC.seq (by kernel_rfl) (SC.region [0, 1] (by kernel_rfl) (by kernel_rfl) (SL.run (d := 6) (v := .slice none 0 0) (by kernel_rfl) (SL.run (d := 7) (v := .bool false) (by kernel_rfl) ?_))))))
  refine SL.nil (SC.next (SC.no (by kernel_rfl) (SC.skip (by kernel_rfl) (SC.next (SC.seq (by kernel_rfl) (SC.region [0] (by kernel_rfl) (by kernel_rfl) ?_))))))
  refine SL.run (d := 2) (v := .int .i64 0) (by kernel_rfl) (SL.nil (SC.next (SC.ret (by kernel_rfl) (SQ.ret1 (t := 2) (v := .int .i64 0) (.inr rfl) (by kernel_rfl) (by kernel_rfl) ?_))))
  have e1 : rByte s = (0, none) := by unfold rByte; rw [hs1]; rfl
  rw [e1]
  exact ⟨rfl, HR.now M3 0 rfl, M3.ke⟩
 | some r =>
  obtain ⟨hl, b, o, rfl⟩ := h1 (by decide) (by simp)
  obtain ⟨x, rfl⟩ := List.length_eq_one_iff.1 hl
  obtain ⟨hb0, hc0⟩ := rd_at hr1
  have hq0 := hc0 0 (by simp)
  have hx0 : 0 ≤ x ∧ x < 256 := bd_u8 (hr1.bd _ (by simp))
  refine SL.run (d := 3) (v := .slice (some ⟨b, o, none⟩) 1 c1) (by kernel_rfl) (SL.nil (SC.next (SC.seq (by kernel_rfl) (SC.region [0, 1] (by kernel_rfl) (by kernel_rfl) (SL.run (d := 6) (v := .slice (some ⟨b, o, none⟩) 1 c1) (by kernel_rfl) (SL.run (d := 7) (v := .bool true) (by kernel_rfl) ?_))))))
  refine SL.nil (SC.next (SC.yes (by kernel_rfl) (SC.seq (by kernel_rfl) (SC.region [0, 1, 2, 3, 4] (by kernel_rfl) (by kernel_rfl) (SL.run (d := 8) (v := .slice (some ⟨b, o, none⟩) 1 c1) (by kernel_rfl) (SL.index (d := 9) (t := 46) (e := 5) (b := b) (o := o) (len := 1) (cap := c1) (sz := 1) (k := .i64) (m := 0) 0 (by kernel_rfl) Try.underlying46 (by kernel_rfl) rfl (by omega) ?_))))))
  refine SL.load (d := 10) (t := 5) (a := .pointer (some ⟨b, o + 0 * 1, none⟩)) (v := .int .u8 x) (by kernel_rfl) (ld_one ((HR.now M3 0 rfl).cell (hb0 (by simp)) hq0) Try.underlying5 rfl) (SL.int (d := 11) (q := .i64) (x := IntKind.wrap .i64 x) (y := x) (wr64 (by omega) (by omega) (by omega)) (by kernel_rfl) (SL.run (d := 2) (v := .int .i64 x) (by kernel_rfl) (SL.nil (SC.next (SC.ret (by kernel_rfl) (SQ.seqExit (by nofun) ?_))))))
  refine SQ.ret1 (t := 2) (v := .int .i64 x) (.inr rfl) (by kernel_rfl) (by kernel_rfl) ?_
  have e1 : rByte s = (x, some r) := by unfold rByte; rw [hs1]; rfl
  rw [e1]
  exact ⟨rfl, HR.now M3 0 rfl, M3.ke⟩
set_option maxHeartbeats 1000000 in
theorem word_walk (HR : Rdr w0 we g s) :
  Calls Try.prog 34 #[.pointer (some ⟨g, 0, none⟩)] we fun e w' => e = .returned (.int .u32 (rWord s).1) ∧ Rdr w0 w' g (rWord s).2 ∧ Ke (· = g) we w' := by
 obtain ⟨l1, s1, hs1⟩ := some_list 4 s
 have M0 := HR.mem
 refine SC.enter (vs := [.pointer (some ⟨g, 0, none⟩)]) (n := 23) (l := [(0, .pointer (some ⟨g, 0, none⟩))]) Try.func34 (by kernel_rfl) (by kernel_rfl) (by kernel_rfl) (by kernel_rfl) (SC.seq (by kernel_rfl) (SC.region [0] (by kernel_rfl) (by kernel_rfl) (SL.run (d := 2) (v := .int .u32 0) (by kernel_rfl) (SL.nil (SC.next (SC.seq (by kernel_rfl) ?_))))))
 refine SC.region [0] (by kernel_rfl) (by kernel_rfl) (SL.run (d := 3) (v := .int .u32 0) (by kernel_rfl) (SL.nil (SC.next (SC.seq (by kernel_rfl) (SC.seq (by kernel_rfl) (SC.region [0, 1, 2, 3] (by kernel_rfl) (by kernel_rfl) ?_))))))
 refine SL.run (d := 6) (v := .pointer (some ⟨g, 0, none⟩)) (by kernel_rfl) (SL.call (d := 7) (f := 32) (vs := [.pointer (some ⟨g, 0, none⟩), .int .i64 4]) (by kernel_rfl) (by kernel_rfl) (by have := some_walk (HR.now M0 0 rfl) 4 (by decide); rw [hs1] at this; exact this) ?_)
 rintro e w1 ⟨a1, c1, rfl, hr1, h1, h2, hR, hk⟩
 refine ⟨_, rfl, ?_⟩
 have M3 := M0.rdr 0 rfl hR hk
 cases s1 with
 | none =>
  obtain ⟨rfl, rfl, rfl⟩ := h2 rfl
  refine SL.builtin (d := 8) (b := .len) (ts := [46]) (ty := 3) (vs := [.slice none 0 0]) (v := .int .i64 0) (by kernel_rfl) (fun k => run_len Try.underlying46 rfl k) (SL.run (d := 9) (v := .int .i64 0) (by kernel_rfl) (SL.nil (SC.next (SC.block (i := 0) (by kernel_rfl) (SC.loopA (X := Nat) (fun x => [(2, .int .u32 0), (3, .int .u32 0), (7, .slice none 0 0), (8, .int .i64 0), (9, .int .i64 x)]) (fun x wr => Mem ⟨we, (· = g)⟩ wr ([rdR w0 g none]) ∧ (x = 0)) (fun x => 5 - x) (PanOk.block (PanOk.seq PanOk.body)) (by kernel_rfl) 0 (by kernel_rfl) ⟨M3, rfl⟩ ?_)))))
  rintro j w9 ⟨M10, hI4⟩ Q5 ag6 ex7 pn8
  replace M10 : Mem ⟨we, (· = g)⟩ w9 ([rdR w0 g none]) := M10
  replace hI4 : j = 0 := hI4
  show SC _ _ _ _ _ [(2, .int .u32 0), (3, .int .u32 0), (7, .slice none 0 0), (8, .int .i64 0), (9, .int .i64 j)] _
  obtain rfl : j = 0 := hI4
  refine SC.seq (by kernel_rfl) (SC.region [0] (by kernel_rfl) (by kernel_rfl) (SL.run (d := 10) (v := .bool false) (by kernel_rfl) (SL.nil (SC.next (SC.seq (by kernel_rfl) (SC.no (by kernel_rfl) ?_))))))
  refine SC.exit (i := 0) (by kernel_rfl) (SQ.seqExit (by nofun) (ex7 (by nofun) (SQ.blockHere (SC.next (SC.seq (by kernel_rfl) (SC.region [0, 1] (by kernel_rfl) (by kernel_rfl) ?_))))))
  refine SL.run (d := 22) (v := .int .u32 0) (by kernel_rfl) (SL.run (d := 2) (v := .int .u32 0) (by kernel_rfl) (SL.nil (SC.next (SC.ret (by kernel_rfl) (SQ.ret1 (t := 2) (v := .int .u32 0) (.inr rfl) (by kernel_rfl) (by kernel_rfl) ?_)))))
  have e1 : rWord s = (0, none) := by unfold rWord; rw [hs1]; rfl
  rw [e1]
  exact ⟨rfl, HR.now M10 0 rfl, M10.ke⟩
 | some r =>
  obtain ⟨hl, b, o, rfl⟩ := h1 (by decide) (by simp)
  obtain ⟨x0, x1, x2, x3, rfl⟩ := list4 hl
  obtain ⟨hb0, hc0⟩ := rd_at hr1
  have hq0 := hc0 0 (by simp)
  have hx0 : 0 ≤ x0 ∧ x0 < 256 := bd_u8 (hr1.bd _ (by simp))
  have hq1 := hc0 1 (by simp)
  have hx1 : 0 ≤ x1 ∧ x1 < 256 := bd_u8 (hr1.bd _ (by simp))
  have hq2 := hc0 2 (by simp)
  have hx2 : 0 ≤ x2 ∧ x2 < 256 := bd_u8 (hr1.bd _ (by simp))
  have hq3 := hc0 3 (by simp)
  have hx3 : 0 ≤ x3 ∧ x3 < 256 := bd_u8 (hr1.bd _ (by simp))
  refine SL.builtin (d := 8) (b := .len) (ts := [46]) (ty := 3) (vs := [.slice (some ⟨b, o, none⟩) 4 c1]) (v := .int .i64 4) (by kernel_rfl) (fun k => run_len Try.underlying46 rfl k) (SL.run (d := 9) (v := .int .i64 0) (by kernel_rfl) (SL.nil (SC.next (SC.block (i := 0) (by kernel_rfl) (SC.loopA (X := Nat) (fun x => [(2, .int .u32 0), (3, .int .u32 (partW x0 x1 x2 x3 x)), (7, .slice (some ⟨b, o, none⟩) 4 c1), (8, .int .i64 4), (9, .int .i64 x)]) (fun x wr => Mem ⟨we, (· = g)⟩ wr ([rdR w0 g (some r)]) ∧ (x ≤ 4)) (fun x => 5 - x) (PanOk.block (PanOk.seq PanOk.body)) (by kernel_rfl) 0 (by kernel_rfl) ⟨M3, Nat.zero_le _⟩ ?_)))))
  rintro j w16 ⟨M17, hI11⟩ Q12 ag13 ex14 pn15
  replace M17 : Mem ⟨we, (· = g)⟩ w16 ([rdR w0 g (some r)]) := M17
  replace hI11 : j ≤ 4 := hI11
  show SC _ _ _ _ _ [(2, .int .u32 0), (3, .int .u32 (partW x0 x1 x2 x3 j)), (7, .slice (some ⟨b, o, none⟩) 4 c1), (8, .int .i64 4), (9, .int .i64 j)] _
  refine SC.seq (by kernel_rfl) (SC.region [0] (by kernel_rfl) (by kernel_rfl) ?_)
  rcases Bool.eq_false_or_eq_true (decide (((j : Nat) : Int) < (4 : Int))) with h18 | h18
  ·skip
   have ph18 : ((j : Nat) : Int) < (4 : Int) := of_decide_eq_true h18
   obtain rfl | rfl | rfl | rfl : j = 0 ∨ j = 1 ∨ j = 2 ∨ j = 3 := by omega
   ·skip
    refine SL.run (d := 10) (v := .bool true) (by kernel_rfl) (SL.nil (SC.next (SC.seq (by kernel_rfl) (SC.yes (by kernel_rfl) (SC.skip (by kernel_rfl) (SC.next ?_))))))
    refine SC.seq (by kernel_rfl) (SC.block (i := 1) (by kernel_rfl) (SC.seq (by kernel_rfl) (SC.region [0, 1, 2, 3, 4] (by kernel_rfl) (by kernel_rfl) (SL.run (d := 11) (v := .int .i64 0) (by kernel_rfl) (SL.index (d := 12) (t := 46) (e := 5) (b := b) (o := o) (len := 4) (cap := c1) (sz := 1) (k := .i64) (m := 0) 0 (by kernel_rfl) Try.underlying46 (by kernel_rfl) rfl (by omega) (SL.load (d := 13) (t := 5) (a := .pointer (some ⟨b, o + 0 * 1, none⟩)) (v := .int .u8 x0) (by kernel_rfl) (ld_one ((HR.now M17 0 rfl).cell (hb0 (by simp)) hq0) Try.underlying5 rfl) ?_))))))
    refine SL.run (d := 4) (v := .int .i64 0) (by kernel_rfl) (SL.run (d := 5) (v := .int .u8 x0) (by kernel_rfl) (SL.nil (SC.next (SC.region [0, 1, 2, 3, 4, 5, 6, 7] (by kernel_rfl) (by kernel_rfl) (SL.run (d := 14) (v := .int .u32 (partW x0 x1 x2 x3 0)) (by kernel_rfl) (SL.run (d := 15) (v := .int .u8 x0) (by kernel_rfl) ?_))))))
    refine SL.int (d := 16) (q := .u32) (x := IntKind.wrap .u32 x0) (y := x0) (wr32 (by omega) (by omega) (by omega)) (by kernel_rfl) (SL.run (d := 17) (v := .int .i64 0) (by kernel_rfl) (SL.run (d := 18) (v := .int .i64 0) (by kernel_rfl) (SL.int (d := 19) (q := .u32) (x := IntKind.wrap .u32 (x0 * 2 ^ 0)) (y := x0 * 2 ^ 0) (wr32 (by omega) (by omega) rfl) (by kernel_rfl) (SL.int (d := 20) (q := .u32) (x := bits .or .u32 (partW x0 x1 x2 x3 0) (x0 * 2 ^ 0)) (y := (partW x0 x1 x2 x3 1)) (or_byte (k := 0) (by simp only [partW]; omega) (by omega) (by decide)) (by kernel_rfl) (SL.run (d := 3) (v := .int .u32 (partW x0 x1 x2 x3 1)) (by kernel_rfl) (SL.nil ?_))))))
    refine SQ.blockNormal (SC.next (SC.region [0, 1] (by kernel_rfl) (by kernel_rfl) (SL.run (d := 21) (v := .int .i64 1) (by kernel_rfl) (SL.run (d := 9) (v := .int .i64 1) (by kernel_rfl) (SL.nil ?_)))))
    exact ag13 1 (by kernel_rfl) ⟨M17, (by omega)⟩ (by omega)
   ·skip
    refine SL.run (d := 10) (v := .bool true) (by kernel_rfl) (SL.nil (SC.next (SC.seq (by kernel_rfl) (SC.yes (by kernel_rfl) (SC.skip (by kernel_rfl) (SC.next ?_))))))
    refine SC.seq (by kernel_rfl) (SC.block (i := 1) (by kernel_rfl) (SC.seq (by kernel_rfl) (SC.region [0, 1, 2, 3, 4] (by kernel_rfl) (by kernel_rfl) (SL.run (d := 11) (v := .int .i64 1) (by kernel_rfl) (SL.index (d := 12) (t := 46) (e := 5) (b := b) (o := o) (len := 4) (cap := c1) (sz := 1) (k := .i64) (m := 1) 1 (by kernel_rfl) Try.underlying46 (by kernel_rfl) rfl (by omega) (SL.load (d := 13) (t := 5) (a := .pointer (some ⟨b, o + 1 * 1, none⟩)) (v := .int .u8 x1) (by kernel_rfl) (ld_one ((HR.now M17 0 rfl).cell (hb0 (by simp)) hq1) Try.underlying5 rfl) ?_))))))
    refine SL.run (d := 4) (v := .int .i64 1) (by kernel_rfl) (SL.run (d := 5) (v := .int .u8 x1) (by kernel_rfl) (SL.nil (SC.next (SC.region [0, 1, 2, 3, 4, 5, 6, 7] (by kernel_rfl) (by kernel_rfl) (SL.run (d := 14) (v := .int .u32 (partW x0 x1 x2 x3 1)) (by kernel_rfl) (SL.run (d := 15) (v := .int .u8 x1) (by kernel_rfl) ?_))))))
    refine SL.int (d := 16) (q := .u32) (x := IntKind.wrap .u32 x1) (y := x1) (wr32 (by omega) (by omega) (by omega)) (by kernel_rfl) (SL.run (d := 17) (v := .int .i64 1) (by kernel_rfl) (SL.run (d := 18) (v := .int .i64 8) (by kernel_rfl) (SL.int (d := 19) (q := .u32) (x := IntKind.wrap .u32 (x1 * 2 ^ 8)) (y := x1 * 2 ^ 8) (wr32 (by omega) (by omega) rfl) (by kernel_rfl) (SL.int (d := 20) (q := .u32) (x := bits .or .u32 (partW x0 x1 x2 x3 1) (x1 * 2 ^ 8)) (y := (partW x0 x1 x2 x3 2)) (or_byte (k := 8) (by simp only [partW]; omega) (by omega) (by decide)) (by kernel_rfl) (SL.run (d := 3) (v := .int .u32 (partW x0 x1 x2 x3 2)) (by kernel_rfl) (SL.nil ?_))))))
    refine SQ.blockNormal (SC.next (SC.region [0, 1] (by kernel_rfl) (by kernel_rfl) (SL.run (d := 21) (v := .int .i64 2) (by kernel_rfl) (SL.run (d := 9) (v := .int .i64 2) (by kernel_rfl) (SL.nil ?_)))))
    exact ag13 2 (by kernel_rfl) ⟨M17, (by omega)⟩ (by omega)
   ·skip
    refine SL.run (d := 10) (v := .bool true) (by kernel_rfl) (SL.nil (SC.next (SC.seq (by kernel_rfl) (SC.yes (by kernel_rfl) (SC.skip (by kernel_rfl) (SC.next ?_))))))
    refine SC.seq (by kernel_rfl) (SC.block (i := 1) (by kernel_rfl) (SC.seq (by kernel_rfl) (SC.region [0, 1, 2, 3, 4] (by kernel_rfl) (by kernel_rfl) (SL.run (d := 11) (v := .int .i64 2) (by kernel_rfl) (SL.index (d := 12) (t := 46) (e := 5) (b := b) (o := o) (len := 4) (cap := c1) (sz := 1) (k := .i64) (m := 2) 2 (by kernel_rfl) Try.underlying46 (by kernel_rfl) rfl (by omega) (SL.load (d := 13) (t := 5) (a := .pointer (some ⟨b, o + 2 * 1, none⟩)) (v := .int .u8 x2) (by kernel_rfl) (ld_one ((HR.now M17 0 rfl).cell (hb0 (by simp)) hq2) Try.underlying5 rfl) ?_))))))
    refine SL.run (d := 4) (v := .int .i64 2) (by kernel_rfl) (SL.run (d := 5) (v := .int .u8 x2) (by kernel_rfl) (SL.nil (SC.next (SC.region [0, 1, 2, 3, 4, 5, 6, 7] (by kernel_rfl) (by kernel_rfl) (SL.run (d := 14) (v := .int .u32 (partW x0 x1 x2 x3 2)) (by kernel_rfl) (SL.run (d := 15) (v := .int .u8 x2) (by kernel_rfl) ?_))))))
    refine SL.int (d := 16) (q := .u32) (x := IntKind.wrap .u32 x2) (y := x2) (wr32 (by omega) (by omega) (by omega)) (by kernel_rfl) (SL.run (d := 17) (v := .int .i64 2) (by kernel_rfl) (SL.run (d := 18) (v := .int .i64 16) (by kernel_rfl) (SL.int (d := 19) (q := .u32) (x := IntKind.wrap .u32 (x2 * 2 ^ 16)) (y := x2 * 2 ^ 16) (wr32 (by omega) (by omega) rfl) (by kernel_rfl) (SL.int (d := 20) (q := .u32) (x := bits .or .u32 (partW x0 x1 x2 x3 2) (x2 * 2 ^ 16)) (y := (partW x0 x1 x2 x3 3)) (or_byte (k := 16) (by simp only [partW]; omega) (by omega) (by decide)) (by kernel_rfl) (SL.run (d := 3) (v := .int .u32 (partW x0 x1 x2 x3 3)) (by kernel_rfl) (SL.nil ?_))))))
    refine SQ.blockNormal (SC.next (SC.region [0, 1] (by kernel_rfl) (by kernel_rfl) (SL.run (d := 21) (v := .int .i64 3) (by kernel_rfl) (SL.run (d := 9) (v := .int .i64 3) (by kernel_rfl) (SL.nil ?_)))))
    exact ag13 3 (by kernel_rfl) ⟨M17, (by omega)⟩ (by omega)
   ·skip
    refine SL.run (d := 10) (v := .bool true) (by kernel_rfl) (SL.nil (SC.next (SC.seq (by kernel_rfl) (SC.yes (by kernel_rfl) (SC.skip (by kernel_rfl) (SC.next ?_))))))
    refine SC.seq (by kernel_rfl) (SC.block (i := 1) (by kernel_rfl) (SC.seq (by kernel_rfl) (SC.region [0, 1, 2, 3, 4] (by kernel_rfl) (by kernel_rfl) (SL.run (d := 11) (v := .int .i64 3) (by kernel_rfl) (SL.index (d := 12) (t := 46) (e := 5) (b := b) (o := o) (len := 4) (cap := c1) (sz := 1) (k := .i64) (m := 3) 3 (by kernel_rfl) Try.underlying46 (by kernel_rfl) rfl (by omega) (SL.load (d := 13) (t := 5) (a := .pointer (some ⟨b, o + 3 * 1, none⟩)) (v := .int .u8 x3) (by kernel_rfl) (ld_one ((HR.now M17 0 rfl).cell (hb0 (by simp)) hq3) Try.underlying5 rfl) ?_))))))
    refine SL.run (d := 4) (v := .int .i64 3) (by kernel_rfl) (SL.run (d := 5) (v := .int .u8 x3) (by kernel_rfl) (SL.nil (SC.next (SC.region [0, 1, 2, 3, 4, 5, 6, 7] (by kernel_rfl) (by kernel_rfl) (SL.run (d := 14) (v := .int .u32 (partW x0 x1 x2 x3 3)) (by kernel_rfl) (SL.run (d := 15) (v := .int .u8 x3) (by kernel_rfl) ?_))))))
    refine SL.int (d := 16) (q := .u32) (x := IntKind.wrap .u32 x3) (y := x3) (wr32 (by omega) (by omega) (by omega)) (by kernel_rfl) (SL.run (d := 17) (v := .int .i64 3) (by kernel_rfl) (SL.run (d := 18) (v := .int .i64 24) (by kernel_rfl) (SL.int (d := 19) (q := .u32) (x := IntKind.wrap .u32 (x3 * 2 ^ 24)) (y := x3 * 2 ^ 24) (wr32 (by omega) (by omega) rfl) (by kernel_rfl) (SL.int (d := 20) (q := .u32) (x := bits .or .u32 (partW x0 x1 x2 x3 3) (x3 * 2 ^ 24)) (y := (partW x0 x1 x2 x3 4)) (or_byte (k := 24) (by simp only [partW]; omega) (by omega) (by decide)) (by kernel_rfl) (SL.run (d := 3) (v := .int .u32 (partW x0 x1 x2 x3 4)) (by kernel_rfl) (SL.nil ?_))))))
    refine SQ.blockNormal (SC.next (SC.region [0, 1] (by kernel_rfl) (by kernel_rfl) (SL.run (d := 21) (v := .int .i64 4) (by kernel_rfl) (SL.run (d := 9) (v := .int .i64 4) (by kernel_rfl) (SL.nil ?_)))))
    exact ag13 4 (by kernel_rfl) ⟨M17, (by omega)⟩ (by omega)
  ·skip
   have ph18 : ¬ (((j : Nat) : Int) < (4 : Int)) := of_decide_eq_false h18
   refine SL.bool (d := 10) (x := (decide (((j : Nat) : Int) < (4 : Int)))) (y := false) h18 (by kernel_rfl) (SL.nil (SC.next (SC.seq (by kernel_rfl) (SC.no (by kernel_rfl) (SC.exit (i := 0) (by kernel_rfl) (SQ.seqExit (by nofun) ?_))))))
   refine ex14 (by nofun) (SQ.blockHere (SC.next (SC.seq (by kernel_rfl) (SC.region [0, 1] (by kernel_rfl) (by kernel_rfl) (SL.run (d := 22) (v := .int .u32 (partW x0 x1 x2 x3 j)) (by kernel_rfl) (SL.run (d := 2) (v := .int .u32 (partW x0 x1 x2 x3 j)) (by kernel_rfl) ?_))))))
   refine SL.nil (SC.next (SC.ret (by kernel_rfl) (SQ.ret1 (t := 2) (v := .int .u32 (partW x0 x1 x2 x3 j)) (.inr rfl) (by kernel_rfl) (by kernel_rfl) ?_)))
   have e1 : rWord s = (partW x0 x1 x2 x3 j, some r) := by unfold rWord; rw [hs1, partW_all _ _ _ _ (by omega)]
   rw [e1]
   exact ⟨rfl, HR.now M17 0 rfl, M17.ke⟩
theorem number_walk (HR : Rdr w0 we g s) (m : Int) (hm0 : 0 ≤ m) (hm : m ≤ 1000000) :
  Calls Try.prog 38 #[.pointer (some ⟨g, 0, none⟩), .int .i64 m] we fun e w' => e = .returned (.int .i64 (rNum m s).1) ∧ Rdr w0 w' g (rNum m s).2 ∧ Ke (· = g) we w' := by
 have M0 := HR.mem
 refine SC.enter (vs := [.pointer (some ⟨g, 0, none⟩), .int .i64 m]) (n := 20) (l := [(0, .pointer (some ⟨g, 0, none⟩)), (1, .int .i64 m)]) Try.func38 (by kernel_rfl) (by kernel_rfl) (by kernel_rfl) (by kernel_rfl) (SC.seq (by kernel_rfl) (SC.region [0] (by kernel_rfl) (by kernel_rfl) (SL.run (d := 4) (v := .int .i64 0) (by kernel_rfl) (SL.nil (SC.next (SC.seq (by kernel_rfl) ?_))))))
 refine SC.region [0, 1, 2] (by kernel_rfl) (by kernel_rfl) (SL.run (d := 6) (v := .pointer (some ⟨g, 0, none⟩)) (by kernel_rfl) ?_)
 obtain ⟨v1, s1, hv1, bv1⟩ := word_nat (HR.now M0 0 rfl)
 refine SL.call (d := 7) (f := 34) (vs := [.pointer (some ⟨g, 0, none⟩)]) (by kernel_rfl) (by kernel_rfl) (by have := word_walk (HR.now M0 0 rfl); rw [hv1] at this; exact this) ?_
 rintro e w1 ⟨rfl, hR, hk⟩
 refine ⟨_, rfl, ?_⟩
 have M3 := M0.rdr 0 rfl hR hk
 refine SL.run (d := 5) (v := .int .u32 v1) (by kernel_rfl) (SL.nil (SC.next (SC.seq (by kernel_rfl) (SC.seq (by kernel_rfl) (SC.region [0, 1, 2, 3] (by kernel_rfl) (by kernel_rfl) (SL.run (d := 8) (v := .int .u32 v1) (by kernel_rfl) ?_))))))
 refine SL.run (d := 9) (v := .int .i64 m) (by kernel_rfl) (SL.int (d := 10) (q := .u32) (x := IntKind.wrap .u32 m) (y := m) (wr32 (by omega) (by omega) (by omega)) (by kernel_rfl) ?_)
 rcases Bool.eq_false_or_eq_true (decide (m < ((v1 : Nat) : Int))) with h4 | h4
 ·skip
  have ph4 : m < ((v1 : Nat) : Int) := of_decide_eq_true h4
  obtain ⟨a, c, l, bad, M5, _, _, _⟩ := M3.rdOpen 0 rfl
  refine SL.bool (d := 11) (x := (decide (m < ((v1 : Nat) : Int)))) (y := true) h4 (by kernel_rfl) (SL.nil (SC.next (SC.yes (by kernel_rfl) (SC.seq (by kernel_rfl) (SC.region [0, 1, 2, 3, 4, 5, 6, 7] (by kernel_rfl) (by kernel_rfl) (SL.run (d := 12) (v := .pointer (some ⟨g, 0, none⟩)) (by kernel_rfl) ?_))))))
  refine SL.run (d := 13) (v := .pointer (some ⟨g, 0, none⟩)) (by kernel_rfl) (SL.run (d := 14) (v := .pointer (some ⟨g, 0, none⟩)) (by kernel_rfl) (SL.run (d := 15) (v := .pointer (some ⟨g, 0, none⟩)) (by kernel_rfl) (SL.storeM (t := 46) (a := .pointer (some ⟨g, 0, none⟩)) (v := .slice none 0 0) (by kernel_rfl) (M5.st1 0 rfl 0 rfl 46 rfl (by kernel_rfl) rfl) ?_)))
  intro w6 M7 hk8 shk8
  refine SL.run (d := 16) (v := .pointer (some ⟨g, 0, none⟩)) (by kernel_rfl) (SL.run (d := 17) (v := .pointer (some ⟨g, 1, none⟩)) (by kernel_rfl) (SL.storeM (t := 4) (a := .pointer (some ⟨g, 1, none⟩)) (v := .bool true) (by kernel_rfl) (M7.st1 0 rfl 1 rfl 4 rfl (by kernel_rfl) rfl) ?_))
  intro w9 M10 hk11 shk11
  refine SL.nil (SC.next (SC.keep (l' := [(4, .int .i64 0), (5, .int .u32 v1)]) [4, 5] (by kernel_rfl) (SC.seq (by kernel_rfl) (SC.region [0] (by kernel_rfl) (by kernel_rfl) (SL.run (d := 4) (v := .int .i64 0) (by kernel_rfl) (SL.nil ?_))))))
  refine SC.next (SC.ret (by kernel_rfl) (SQ.seqExit (by nofun) (SQ.ret1 (t := 4) (v := .int .i64 0) (.inr rfl) (by kernel_rfl) (by kernel_rfl) ?_)))
  have e1 : rNum m s = (0, none) := by unfold rNum rCount; rw [hv1]; exact if_pos ph4
  rw [e1]
  exact ⟨rfl, HR.done M10 0 (a := none) (c := 0) (l := []) (bad := true) rfl ⟨RdC.nilSlice _, fun x hx => (by cases hx)⟩ (.inl rfl) rfl, M10.ke⟩
 ·skip
  have ph4 : ¬ (m < ((v1 : Nat) : Int)) := of_decide_eq_false h4
  refine SL.bool (d := 11) (x := (decide (m < ((v1 : Nat) : Int)))) (y := false) h4 (by kernel_rfl) (SL.nil (SC.next (SC.no (by kernel_rfl) (SC.skip (by kernel_rfl) (SC.next (SC.seq (by kernel_rfl) ?_))))))
  refine SC.region [0, 1, 2] (by kernel_rfl) (by kernel_rfl) (SL.run (d := 18) (v := .int .u32 v1) (by kernel_rfl) (SL.int (d := 19) (q := .i64) (x := IntKind.wrap .i64 ((v1 : Nat) : Int)) (y := ((v1 : Nat) : Int)) (wr64 (by omega) (by omega) (by omega)) (by kernel_rfl) (SL.run (d := 4) (v := .int .i64 v1) (by kernel_rfl) (SL.nil (SC.next (SC.ret (by kernel_rfl) ?_))))))
  refine SQ.ret1 (t := 4) (v := .int .i64 v1) (.inr rfl) (by kernel_rfl) (by kernel_rfl) ?_
  have e1 : rNum m s = ((v1 : Int), s1) := by unfold rNum rCount; rw [hv1]; exact if_neg ph4
  rw [e1]
  exact ⟨rfl, HR.now M3 0 rfl, M3.ke⟩
theorem name_walk (HR : Rdr w0 we g s) :
  Calls Try.prog 33 #[.pointer (some ⟨g, 0, none⟩)] we fun e w' => e = .returned (.string (rNm s).1) ∧ Rdr w0 w' g (rNm s).2 ∧ Ke (· = g) we w' := by
 have M0 := HR.mem
 refine SC.enter (vs := [.pointer (some ⟨g, 0, none⟩)]) (n := 8) (l := [(0, .pointer (some ⟨g, 0, none⟩))]) Try.func33 (by kernel_rfl) (by kernel_rfl) (by kernel_rfl) (by kernel_rfl) (SC.seq (by kernel_rfl) (SC.region [0] (by kernel_rfl) (by kernel_rfl) (SL.run (d := 2) (v := .string ⟨#[]⟩) (by kernel_rfl) (SL.nil (SC.next (SC.seq (by kernel_rfl) ?_))))))
 refine SC.region [0, 1, 2, 3, 4, 5] (by kernel_rfl) (by kernel_rfl) (SL.run (d := 3) (v := .pointer (some ⟨g, 0, none⟩)) (by kernel_rfl) (SL.run (d := 4) (v := .pointer (some ⟨g, 0, none⟩)) (by kernel_rfl) ?_))
 obtain ⟨v1, s1, hv1, bv1⟩ := byte_nat (HR.now M0 0 rfl)
 refine SL.call (d := 5) (f := 36) (vs := [.pointer (some ⟨g, 0, none⟩)]) (by kernel_rfl) (by kernel_rfl) (by have := byte_walk (HR.now M0 0 rfl); rw [hv1] at this; exact this) ?_
 rintro e w1 ⟨rfl, hR, hk⟩
 refine ⟨_, rfl, ?_⟩
 have M3 := M0.rdr 0 rfl hR hk
 obtain ⟨l2, s2, hs2⟩ := some_list v1 s1
 refine SL.call (d := 6) (f := 32) (vs := [.pointer (some ⟨g, 0, none⟩), .int .i64 v1]) (by kernel_rfl) (by kernel_rfl) (by have := some_walk (HR.now M3 0 rfl) v1 (by omega); rw [hs2] at this; exact this) ?_
 rintro e w4 ⟨a2, c2, rfl, hr2, _, _, hR, hk⟩
 refine ⟨_, rfl, ?_⟩
 have M6 := M3.rdr 0 rfl hR hk
 refine SL.ex (d := 7) (m := convert 46 9 (.slice a2 l2.length c2)) (v := .string (strOf l2)) (by kernel_rfl) (run_str_of (hr2.below (HR.now M6 0 rfl).bel (Nat.le_refl _)) Try.underlying46 Try.underlying5 Try.underlying9) (SL.run (d := 2) (v := .string (strOf l2)) (by kernel_rfl) (SL.nil (SC.next (SC.ret (by kernel_rfl) (SQ.ret1 (t := 2) (v := .string (strOf l2)) (.inr rfl) (by kernel_rfl) (by kernel_rfl) ?_)))))
 rw [rNm_eq hv1 bv1 hs2]
 exact ⟨rfl, HR.now M6 0 rfl, M6.ke⟩
theorem rdref_walk (HR : Rdr w0 we g s) :
  Calls Try.prog 69 #[.pointer (some ⟨g, 0, none⟩)] we fun e w' => e = .returned (.agg #[.int .i64 (rRef s).1.mod, .int .i64 (rRef s).1.idx]) ∧ Rdr w0 w' g (rRef s).2 ∧ Ke (· = g) we w' := by
 have M0 := HR.mem
 refine SC.enter (vs := [.pointer (some ⟨g, 0, none⟩)]) (n := 10) (l := [(0, .pointer (some ⟨g, 0, none⟩))]) Try.func69 (by kernel_rfl) (by kernel_rfl) (by kernel_rfl) (by kernel_rfl) (SC.seq (by kernel_rfl) (SC.region [0] (by kernel_rfl) (by kernel_rfl) (SL.allocM (d := 2) (t := 30) (z := .agg #[.int .i64 0, .int .i64 0]) (cs := #[.int .i64 0, .int .i64 0]) M0 (by kernel_rfl) (by kernel_rfl) rfl ?_)))
 intro g1 w2 hb3 ⟨bg1, lg1⟩ M4
 refine SL.nil (SC.next (SC.seq (by kernel_rfl) (SC.region [0, 1, 2] (by kernel_rfl) (by kernel_rfl) (SL.run (d := 4) (v := .pointer (some ⟨g, 0, none⟩)) (by kernel_rfl) ?_))))
 obtain ⟨v1, s1, hv1, bv1⟩ := byte_nat (HR.now M4 1 rfl)
 refine SL.call (d := 5) (f := 36) (vs := [.pointer (some ⟨g, 0, none⟩)]) (by kernel_rfl) (by kernel_rfl) (by have := byte_walk (HR.now M4 1 rfl); rw [hv1] at this; exact this) ?_
 rintro e w5 ⟨rfl, hR, hk⟩
 refine ⟨_, rfl, ?_⟩
 have M7 := M4.rdr 1 rfl hR hk
 refine SL.run (d := 3) (v := .int .i64 v1) (by kernel_rfl) (SL.nil (SC.next (SC.seq (by kernel_rfl) (SC.region [0, 1, 2, 3, 4] (by kernel_rfl) (by kernel_rfl) (SL.run (d := 6) (v := .int .i64 v1) (by kernel_rfl) (SL.run (d := 7) (v := .pointer (some ⟨g, 0, none⟩)) (by kernel_rfl) ?_))))))
 obtain ⟨v2, s2, hv2, bv2⟩ := byte_nat (HR.now M7 1 rfl)
 refine SL.call (d := 8) (f := 36) (vs := [.pointer (some ⟨g, 0, none⟩)]) (by kernel_rfl) (by kernel_rfl) (by have := byte_walk (HR.now M7 1 rfl); rw [hv2] at this; exact this) ?_
 rintro e w8 ⟨rfl, hR, hk⟩
 refine ⟨_, rfl, ?_⟩
 have M10 := M7.rdr 1 rfl hR hk
 refine SL.build (d := 9) (t := 30) (ps := [(0, .int .i64 v1), (1, .int .i64 v2)]) (cs := #[.int .i64 v1, .int .i64 v2]) (by kernel_rfl) (by kernel_rfl) (SL.storeM (t := 30) (a := .pointer (some ⟨g1, 0, none⟩)) (v := .agg #[.int .i64 v1, .int .i64 v2]) (by kernel_rfl) (M10.stBox 0 rfl rfl (by kernel_rfl) rfl) ?_)
 intro w11 M12 hk13 shk13
 refine SL.nil (SC.next (SC.ret (by kernel_rfl) ?_))
 refine SQ.retE (P := Try.prog) (v := .agg #[.int .i64 v1, .int .i64 v2]) (.inr rfl) (fun a ha => ?_) ?_
 ·exact res_c (by kernel_rfl) (ha.getD (t := 2) (v := .pointer (some ⟨g1, 0, none⟩)) (by kernel_rfl)) (M12.ldBox 0 rfl Try.underlying30 rfl (by kernel_rfl))
 have e1 : rRef s = (⟨v1, v2⟩, s2) := by unfold rRef; rw [hv1]; dsimp only; rw [hv2]
 rw [e1]
 exact ⟨rfl, HR.now M12 1 rfl, M12.ke⟩
end Go.Proofs.Ytfnibpkojhgflaa
