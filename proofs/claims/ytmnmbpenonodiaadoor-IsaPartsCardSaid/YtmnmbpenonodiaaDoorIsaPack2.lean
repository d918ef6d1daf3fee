/- Contract of isa.pack at an instruction that may be: its word. -/
import Derived.Test.YtmnmbpenonodiaaDoorIsaPack
namespace Go.Proofs.YtmnmbpenonodiaaDoor
set_option linter.unusedVariables false
set_option linter.unusedSimpArgs false
open Go.RowKit

theorem bit_b01 (f : Bool) (w : World) : Calls Tryd.prog 38 #[.bool f] w fun e w' => e = .returned (.int .i64 (b01 f)) ∧ w = w' := bit_walk f w

/-- where isa.pack stands. -/
structure PSt (w0 w : World) (gi g : Nat) (ci : Array Value) (x : Int) (m : Nat) : Prop where
  I : At w gi ci 29
  X : At w g #[.int .u32 x] 31
  F : FB x m
  B : Below w0.heap.size w0 w
  lo : w0.heap.size ≤ gi
  ord : gi < g
theorem put_pst {w0 w : World} {gi g : Nat} {ci : Array Value} {x : Int} {m : Nat} (p : PSt w0 w gi g ci x m) (n z : Int) (s : Nat) (hm : m + s ≤ 32) (hs : (z, s) = (1, 1) ∨ (z, s) = (2, 2) ∨ (z, s) = (4, 4) ∨ (z, s) = (16, 16) ∨ (z, s) = (20, 20) ∨ (z, s) = (24, 24)) :
    Calls Tryd.prog 43 #[.int .i64 n, .int .i64 z, .pointer (some ⟨g, 0, none⟩)] w fun e w' => e = .returned (.tuple #[]) ∧ PSt w0 w' gi g ci (fld x n s) (m + s) :=
  (put1_walk x n z m s g w p.X p.F hm hs).mono fun e w' ⟨he, h1, k⟩ => ⟨he, p.I.ke k (fun h => by have := p.ord; omega), h1, p.F.f s, ⟨k.os.trans p.B.os, k.tape.trans p.B.tape, k.output.trans p.B.output, Nat.le_trans p.B.size k.size, fun i hi => (k.block i (Nat.lt_of_lt_of_le hi p.B.size) (by have := p.lo; have := p.ord; omega)).trans (p.B.block i hi)⟩, p.lo, p.ord⟩

theorem or_i64 (a b : Nat) (ha : a < 9223372036854775808) (hb : b < 9223372036854775808) : bits .or .i64 (a : Int) (b : Int) = ((a ||| b : Nat) : Int) := by
  have h1 : (BitVec.ofInt 64 (a : Int)).toNat = a := by rw [BitVec.toNat_ofInt]; omega
  have h2 : (BitVec.ofInt 64 (b : Int)).toNat = b := by rw [BitVec.toNat_ofInt]; omega
  have h3 : a ||| b < 9223372036854775808 := Nat.or_lt_two_pow (n := 63) ha hb
  show IntKind.i64.wrap ((BitVec.ofInt 64 (a : Int) ||| BitVec.ofInt 64 (b : Int)).toNat : Int) = _
  rw [BitVec.toNat_or, h1, h2, IntKind.wrap_i64]
  omega

set_option maxRecDepth 20000 in
set_option maxHeartbeats 8000000 in
theorem pack_0 (u : Bool) (a b c op : Int) (w : World) (hc : 0 ≤ c ∧ c ≤ 15) : Calls Tryd.prog 31 #[(Ins.mk 0 u false a b c op 0 0 0 0).val] w fun e w' => e = .returned (.int .u32 (wordR (Ins.mk 0 u false a b c op 0 0 0 0))) ∧ Below w.heap.size w w' := by
  have ho : bits .or .i64 0 c = c := by
    obtain ⟨k, rfl⟩ := Int.eq_ofNat_of_zero_le hc.1
    have := or_i64 0 k (by decide) (by omega)
    simpa using this
  clear hc
  have p0 : PSt w ((w.alloc (.cells #[.int .i64 0, .bool u, .bool false, .int .i64 a, .int .i64 b, .int .i64 c, .int .i64 op, .int .i64 0, .int .i64 0, .int .i64 0, .int .i64 0] 29)).alloc (.cells #[.int .u32 0] 31)) w.heap.size (w.heap.size + 1) #[.int .i64 0, .bool u, .bool false, .int .i64 a, .int .i64 b, .int .i64 c, .int .i64 op, .int .i64 0, .int .i64 0, .int .i64 0, .int .i64 0] 0 0 := by
    have h := (Sep.nil w).alloc2 #[.int .i64 0, .bool u, .bool false, .int .i64 a, .int .i64 b, .int .i64 c, .int .i64 op, .int .i64 0, .int .i64 0, .int .i64 0, .int .i64 0] #[.int .u32 0] 29 31
    exact ⟨h.at 1 rfl, h.at 0 rfl, FB.zero, bel2 _ _ _, Nat.le_refl _, Nat.lt_succ_self _⟩
  have P0 := Lib.hid p0
  clear p0
  go_enter Tryd.func31, Tryd.ntmps31
  go_wp2_with fail
  refine (put_pst P0.out 0 2 2 (by decide) (by simp)).mono ?_
  rintro e w1 ⟨rfl, p⟩
  have P1 := Lib.hid p
  clear p
  have c1 : w1.cell? ⟨w.heap.size, 1, none⟩ = some (.bool u) := (P1.out.I.cell 1).trans rfl
  go_wp2_with fail
  refine (bit_b01 u _).mono ?_
  rintro e w' ⟨rfl, rfl⟩
  go_wp2_with fail
  refine (put_pst P1.out (b01 u) 1 1 (by decide) (by simp)).mono ?_
  rintro e w2 ⟨rfl, p⟩
  have P2 := Lib.hid p
  clear p c1
  have c2 : w2.cell? ⟨w.heap.size, 2, none⟩ = some (.bool false) := (P2.out.I.cell 2).trans rfl
  go_wp2_with fail
  refine (bit_b01 false _).mono ?_
  rintro e w' ⟨rfl, rfl⟩
  go_wp2_with fail
  refine (put_pst P2.out (b01 false) 1 1 (by decide) (by simp)).mono ?_
  rintro e w3 ⟨rfl, p⟩
  have P3 := Lib.hid p
  clear p c2
  have c3 : w3.cell? ⟨w.heap.size, 3, none⟩ = some (.int .i64 a) := (P3.out.I.cell 3).trans rfl
  go_wp2_with fail
  refine (put_pst P3.out a 4 4 (by decide) (by simp)).mono ?_
  rintro e w4 ⟨rfl, p⟩
  have P4 := Lib.hid p
  clear p c3
  have c4 : w4.cell? ⟨w.heap.size, 4, none⟩ = some (.int .i64 b) := (P4.out.I.cell 4).trans rfl
  go_wp2_with fail
  refine (put_pst P4.out b 4 4 (by decide) (by simp)).mono ?_
  rintro e w5 ⟨rfl, p⟩
  have P5 := Lib.hid p
  clear p c4
  have c6 : w5.cell? ⟨w.heap.size, 6, none⟩ = some (.int .i64 op) := (P5.out.I.cell 6).trans rfl
  go_wp2_with fail
  refine (put_pst P5.out op 4 4 (by decide) (by simp)).mono ?_
  rintro e w6 ⟨rfl, p⟩
  have P6 := Lib.hid p
  clear p c6
  have c7 : w6.cell? ⟨w.heap.size, 7, none⟩ = some (.int .i64 0) := (P6.out.I.cell 7).trans rfl
  have c5 : w6.cell? ⟨w.heap.size, 5, none⟩ = some (.int .i64 c) := (P6.out.I.cell 5).trans rfl
  go_wp2_with fail
  refine (put_pst P6.out c 16 16 (by decide) (by simp)).mono ?_
  rintro e w7 ⟨rfl, p⟩
  have P7 := Lib.hid p
  clear p c7 c5
  have cx : w7.cell? ⟨w.heap.size + 1, 0, none⟩ = some (.int .u32 _) := (P7.out.X.cell 0).trans rfl
  go_wp2_with fail
  go_ret
  exact ⟨ret_int (by simp [wordR]), P7.out.B⟩

set_option maxRecDepth 20000 in
set_option maxHeartbeats 8000000 in
theorem pack_1 (u v : Bool) (a b op im : Int) (w : World) (hi : 0 ≤ im ∧ im ≤ 65535) : Calls Tryd.prog 31 #[(Ins.mk 1 u v a b 0 op im 0 0 0).val] w fun e w' => e = .returned (.int .u32 (wordR (Ins.mk 1 u v a b 0 op im 0 0 0))) ∧ Below w.heap.size w w' := by
  have ho : bits .or .i64 im 0 = im := by
    obtain ⟨k, rfl⟩ := Int.eq_ofNat_of_zero_le hi.1
    have := or_i64 k 0 (by omega) (by decide)
    simpa using this
  clear hi
  have p0 : PSt w ((w.alloc (.cells #[.int .i64 1, .bool u, .bool v, .int .i64 a, .int .i64 b, .int .i64 0, .int .i64 op, .int .i64 im, .int .i64 0, .int .i64 0, .int .i64 0] 29)).alloc (.cells #[.int .u32 0] 31)) w.heap.size (w.heap.size + 1) #[.int .i64 1, .bool u, .bool v, .int .i64 a, .int .i64 b, .int .i64 0, .int .i64 op, .int .i64 im, .int .i64 0, .int .i64 0, .int .i64 0] 0 0 := by
    have h := (Sep.nil w).alloc2 #[.int .i64 1, .bool u, .bool v, .int .i64 a, .int .i64 b, .int .i64 0, .int .i64 op, .int .i64 im, .int .i64 0, .int .i64 0, .int .i64 0] #[.int .u32 0] 29 31
    exact ⟨h.at 1 rfl, h.at 0 rfl, FB.zero, bel2 _ _ _, Nat.le_refl _, Nat.lt_succ_self _⟩
  have P0 := Lib.hid p0
  clear p0
  go_enter Tryd.func31, Tryd.ntmps31
  go_wp2_with fail
  refine (put_pst P0.out 1 2 2 (by decide) (by simp)).mono ?_
  rintro e w1 ⟨rfl, p⟩
  have P1 := Lib.hid p
  clear p
  have c1 : w1.cell? ⟨w.heap.size, 1, none⟩ = some (.bool u) := (P1.out.I.cell 1).trans rfl
  go_wp2_with fail
  refine (bit_b01 u _).mono ?_
  rintro e w' ⟨rfl, rfl⟩
  go_wp2_with fail
  refine (put_pst P1.out (b01 u) 1 1 (by decide) (by simp)).mono ?_
  rintro e w2 ⟨rfl, p⟩
  have P2 := Lib.hid p
  clear p c1
  have c2 : w2.cell? ⟨w.heap.size, 2, none⟩ = some (.bool v) := (P2.out.I.cell 2).trans rfl
  go_wp2_with fail
  refine (bit_b01 v _).mono ?_
  rintro e w' ⟨rfl, rfl⟩
  go_wp2_with fail
  refine (put_pst P2.out (b01 v) 1 1 (by decide) (by simp)).mono ?_
  rintro e w3 ⟨rfl, p⟩
  have P3 := Lib.hid p
  clear p c2
  have c3 : w3.cell? ⟨w.heap.size, 3, none⟩ = some (.int .i64 a) := (P3.out.I.cell 3).trans rfl
  go_wp2_with fail
  refine (put_pst P3.out a 4 4 (by decide) (by simp)).mono ?_
  rintro e w4 ⟨rfl, p⟩
  have P4 := Lib.hid p
  clear p c3
  have c4 : w4.cell? ⟨w.heap.size, 4, none⟩ = some (.int .i64 b) := (P4.out.I.cell 4).trans rfl
  go_wp2_with fail
  refine (put_pst P4.out b 4 4 (by decide) (by simp)).mono ?_
  rintro e w5 ⟨rfl, p⟩
  have P5 := Lib.hid p
  clear p c4
  have c6 : w5.cell? ⟨w.heap.size, 6, none⟩ = some (.int .i64 op) := (P5.out.I.cell 6).trans rfl
  go_wp2_with fail
  refine (put_pst P5.out op 4 4 (by decide) (by simp)).mono ?_
  rintro e w6 ⟨rfl, p⟩
  have P6 := Lib.hid p
  clear p c6
  have c7 : w6.cell? ⟨w.heap.size, 7, none⟩ = some (.int .i64 im) := (P6.out.I.cell 7).trans rfl
  have c5 : w6.cell? ⟨w.heap.size, 5, none⟩ = some (.int .i64 0) := (P6.out.I.cell 5).trans rfl
  go_wp2_with fail
  refine (put_pst P6.out im 16 16 (by decide) (by simp)).mono ?_
  rintro e w7 ⟨rfl, p⟩
  have P7 := Lib.hid p
  clear p c7 c5
  have cx : w7.cell? ⟨w.heap.size + 1, 0, none⟩ = some (.int .u32 _) := (P7.out.X.cell 0).trans rfl
  go_wp2_with fail
  go_ret
  exact ⟨ret_int (by simp [wordR]), P7.out.B⟩

set_option maxRecDepth 20000 in
set_option maxHeartbeats 8000000 in
theorem pack_2 (v : Bool) (a b off : Int) (w : World)  : Calls Tryd.prog 31 #[(Ins.mk 2 false v a b 0 0 0 off 0 0).val] w fun e w' => e = .returned (.int .u32 (wordR (Ins.mk 2 false v a b 0 0 0 off 0 0))) ∧ Below w.heap.size w w' := by
  have p0 : PSt w ((w.alloc (.cells #[.int .i64 2, .bool false, .bool v, .int .i64 a, .int .i64 b, .int .i64 0, .int .i64 0, .int .i64 0, .int .i64 off, .int .i64 0, .int .i64 0] 29)).alloc (.cells #[.int .u32 0] 31)) w.heap.size (w.heap.size + 1) #[.int .i64 2, .bool false, .bool v, .int .i64 a, .int .i64 b, .int .i64 0, .int .i64 0, .int .i64 0, .int .i64 off, .int .i64 0, .int .i64 0] 0 0 := by
    have h := (Sep.nil w).alloc2 #[.int .i64 2, .bool false, .bool v, .int .i64 a, .int .i64 b, .int .i64 0, .int .i64 0, .int .i64 0, .int .i64 off, .int .i64 0, .int .i64 0] #[.int .u32 0] 29 31
    exact ⟨h.at 1 rfl, h.at 0 rfl, FB.zero, bel2 _ _ _, Nat.le_refl _, Nat.lt_succ_self _⟩
  have P0 := Lib.hid p0
  clear p0
  go_enter Tryd.func31, Tryd.ntmps31
  go_wp2_with fail
  refine (put_pst P0.out 2 2 2 (by decide) (by simp)).mono ?_
  rintro e w1 ⟨rfl, p⟩
  have P1 := Lib.hid p
  clear p
  have c0 : w1.cell? ⟨w.heap.size, 0, none⟩ = some (.int .i64 2) := (P1.out.I.cell 0).trans rfl
  go_wp2_with fail
  refine (bit_b01 false _).mono ?_
  rintro e w' ⟨rfl, rfl⟩
  go_wp2_with fail
  refine (put_pst P1.out (b01 false) 1 1 (by decide) (by simp)).mono ?_
  rintro e w2 ⟨rfl, p⟩
  have P2 := Lib.hid p
  clear p c0
  have c2 : w2.cell? ⟨w.heap.size, 2, none⟩ = some (.bool v) := (P2.out.I.cell 2).trans rfl
  go_wp2_with fail
  refine (bit_b01 v _).mono ?_
  rintro e w' ⟨rfl, rfl⟩
  go_wp2_with fail
  refine (put_pst P2.out (b01 v) 1 1 (by decide) (by simp)).mono ?_
  rintro e w3 ⟨rfl, p⟩
  have P3 := Lib.hid p
  clear p c2
  have c3 : w3.cell? ⟨w.heap.size, 3, none⟩ = some (.int .i64 a) := (P3.out.I.cell 3).trans rfl
  go_wp2_with fail
  refine (put_pst P3.out a 4 4 (by decide) (by simp)).mono ?_
  rintro e w4 ⟨rfl, p⟩
  have P4 := Lib.hid p
  clear p c3
  have c4 : w4.cell? ⟨w.heap.size, 4, none⟩ = some (.int .i64 b) := (P4.out.I.cell 4).trans rfl
  go_wp2_with fail
  refine (put_pst P4.out b 4 4 (by decide) (by simp)).mono ?_
  rintro e w5 ⟨rfl, p⟩
  have P5 := Lib.hid p
  clear p c4
  have c8 : w5.cell? ⟨w.heap.size, 8, none⟩ = some (.int .i64 off) := (P5.out.I.cell 8).trans rfl
  go_wp2_with fail
  refine (put_pst P5.out off 20 20 (by decide) (by simp)).mono ?_
  rintro e w6 ⟨rfl, p⟩
  have P6 := Lib.hid p
  clear p c8
  have cx : w6.cell? ⟨w.heap.size + 1, 0, none⟩ = some (.int .u32 _) := (P6.out.X.cell 0).trans rfl
  go_wp2_with fail
  go_ret
  exact ⟨ret_int (by simp [wordR, b01]), P6.out.B⟩

set_option maxRecDepth 20000 in
set_option maxHeartbeats 8000000 in
theorem pack_3 (v : Bool) (a b off : Int) (w : World)  : Calls Tryd.prog 31 #[(Ins.mk 3 false v a b 0 0 0 off 0 0).val] w fun e w' => e = .returned (.int .u32 (wordR (Ins.mk 3 false v a b 0 0 0 off 0 0))) ∧ Below w.heap.size w w' := by
  have p0 : PSt w ((w.alloc (.cells #[.int .i64 3, .bool false, .bool v, .int .i64 a, .int .i64 b, .int .i64 0, .int .i64 0, .int .i64 0, .int .i64 off, .int .i64 0, .int .i64 0] 29)).alloc (.cells #[.int .u32 0] 31)) w.heap.size (w.heap.size + 1) #[.int .i64 3, .bool false, .bool v, .int .i64 a, .int .i64 b, .int .i64 0, .int .i64 0, .int .i64 0, .int .i64 off, .int .i64 0, .int .i64 0] 0 0 := by
    have h := (Sep.nil w).alloc2 #[.int .i64 3, .bool false, .bool v, .int .i64 a, .int .i64 b, .int .i64 0, .int .i64 0, .int .i64 0, .int .i64 off, .int .i64 0, .int .i64 0] #[.int .u32 0] 29 31
    exact ⟨h.at 1 rfl, h.at 0 rfl, FB.zero, bel2 _ _ _, Nat.le_refl _, Nat.lt_succ_self _⟩
  have P0 := Lib.hid p0
  clear p0
  go_enter Tryd.func31, Tryd.ntmps31
  go_wp2_with fail
  refine (put_pst P0.out 2 2 2 (by decide) (by simp)).mono ?_
  rintro e w1 ⟨rfl, p⟩
  have P1 := Lib.hid p
  clear p
  have c0 : w1.cell? ⟨w.heap.size, 0, none⟩ = some (.int .i64 3) := (P1.out.I.cell 0).trans rfl
  go_wp2_with fail
  refine (bit_b01 true _).mono ?_
  rintro e w' ⟨rfl, rfl⟩
  go_wp2_with fail
  refine (put_pst P1.out (b01 true) 1 1 (by decide) (by simp)).mono ?_
  rintro e w2 ⟨rfl, p⟩
  have P2 := Lib.hid p
  clear p c0
  have c2 : w2.cell? ⟨w.heap.size, 2, none⟩ = some (.bool v) := (P2.out.I.cell 2).trans rfl
  go_wp2_with fail
  refine (bit_b01 v _).mono ?_
  rintro e w' ⟨rfl, rfl⟩
  go_wp2_with fail
  refine (put_pst P2.out (b01 v) 1 1 (by decide) (by simp)).mono ?_
  rintro e w3 ⟨rfl, p⟩
  have P3 := Lib.hid p
  clear p c2
  have c3 : w3.cell? ⟨w.heap.size, 3, none⟩ = some (.int .i64 a) := (P3.out.I.cell 3).trans rfl
  go_wp2_with fail
  refine (put_pst P3.out a 4 4 (by decide) (by simp)).mono ?_
  rintro e w4 ⟨rfl, p⟩
  have P4 := Lib.hid p
  clear p c3
  have c4 : w4.cell? ⟨w.heap.size, 4, none⟩ = some (.int .i64 b) := (P4.out.I.cell 4).trans rfl
  go_wp2_with fail
  refine (put_pst P4.out b 4 4 (by decide) (by simp)).mono ?_
  rintro e w5 ⟨rfl, p⟩
  have P5 := Lib.hid p
  clear p c4
  have c8 : w5.cell? ⟨w.heap.size, 8, none⟩ = some (.int .i64 off) := (P5.out.I.cell 8).trans rfl
  go_wp2_with fail
  refine (put_pst P5.out off 20 20 (by decide) (by simp)).mono ?_
  rintro e w6 ⟨rfl, p⟩
  have P6 := Lib.hid p
  clear p c8
  have cx : w6.cell? ⟨w.heap.size + 1, 0, none⟩ = some (.int .u32 _) := (P6.out.X.cell 0).trans rfl
  go_wp2_with fail
  go_ret
  exact ⟨ret_int (by simp [wordR, b01]), P6.out.B⟩

set_option maxRecDepth 20000 in
set_option maxHeartbeats 8000000 in
theorem pack_4_false (cond off : Int) (w : World)  : Calls Tryd.prog 31 #[(Ins.mk 4 false false 0 0 0 0 0 off cond 0).val] w fun e w' => e = .returned (.int .u32 (wordR (Ins.mk 4 false false 0 0 0 0 0 off cond 0))) ∧ Below w.heap.size w w' := by
  have p0 : PSt w ((w.alloc (.cells #[.int .i64 4, .bool false, .bool false, .int .i64 0, .int .i64 0, .int .i64 0, .int .i64 0, .int .i64 0, .int .i64 off, .int .i64 cond, .int .i64 0] 29)).alloc (.cells #[.int .u32 0] 31)) w.heap.size (w.heap.size + 1) #[.int .i64 4, .bool false, .bool false, .int .i64 0, .int .i64 0, .int .i64 0, .int .i64 0, .int .i64 0, .int .i64 off, .int .i64 cond, .int .i64 0] 0 0 := by
    have h := (Sep.nil w).alloc2 #[.int .i64 4, .bool false, .bool false, .int .i64 0, .int .i64 0, .int .i64 0, .int .i64 0, .int .i64 0, .int .i64 off, .int .i64 cond, .int .i64 0] #[.int .u32 0] 29 31
    exact ⟨h.at 1 rfl, h.at 0 rfl, FB.zero, bel2 _ _ _, Nat.le_refl _, Nat.lt_succ_self _⟩
  have P0 := Lib.hid p0
  clear p0
  go_enter Tryd.func31, Tryd.ntmps31
  go_wp2_with fail
  refine (put_pst P0.out 3 2 2 (by decide) (by simp)).mono ?_
  rintro e w1 ⟨rfl, p⟩
  have P1 := Lib.hid p
  clear p
  have c0 : w1.cell? ⟨w.heap.size, 0, none⟩ = some (.int .i64 4) := (P1.out.I.cell 0).trans rfl
  go_wp2_with fail
  refine (bit_b01 true _).mono ?_
  rintro e w' ⟨rfl, rfl⟩
  go_wp2_with fail
  refine (put_pst P1.out (b01 true) 1 1 (by decide) (by simp)).mono ?_
  rintro e w2 ⟨rfl, p⟩
  have P2 := Lib.hid p
  clear p c0
  have c2 : w2.cell? ⟨w.heap.size, 2, none⟩ = some (.bool false) := (P2.out.I.cell 2).trans rfl
  have c0 : w2.cell? ⟨w.heap.size, 0, none⟩ = some (.int .i64 4) := (P2.out.I.cell 0).trans rfl
  go_wp2_with fail
  refine (bit_b01 false _).mono ?_
  rintro e w' ⟨rfl, rfl⟩
  go_wp2_with fail
  refine (put_pst P2.out (b01 false) 1 1 (by decide) (by simp)).mono ?_
  rintro e w3 ⟨rfl, p⟩
  have P3 := Lib.hid p
  clear p c2 c0
  have c9 : w3.cell? ⟨w.heap.size, 9, none⟩ = some (.int .i64 cond) := (P3.out.I.cell 9).trans rfl
  go_wp2_with fail
  refine (put_pst P3.out cond 4 4 (by decide) (by simp)).mono ?_
  rintro e w4 ⟨rfl, p⟩
  have P4 := Lib.hid p
  clear p c9
  have c0 : w4.cell? ⟨w.heap.size, 0, none⟩ = some (.int .i64 4) := (P4.out.I.cell 0).trans rfl
  have c8 : w4.cell? ⟨w.heap.size, 8, none⟩ = some (.int .i64 off) := (P4.out.I.cell 8).trans rfl
  go_wp2_with fail
  refine (put_pst P4.out off 24 24 (by decide) (by simp)).mono ?_
  rintro e w5 ⟨rfl, p⟩
  have P5 := Lib.hid p
  clear p c0 c8
  have cx : w5.cell? ⟨w.heap.size + 1, 0, none⟩ = some (.int .u32 _) := (P5.out.X.cell 0).trans rfl
  go_wp2_with fail
  go_ret
  exact ⟨ret_int (by simp [wordR, b01]), P5.out.B⟩

set_option maxRecDepth 20000 in
set_option maxHeartbeats 8000000 in
theorem pack_4_true (cond off : Int) (w : World)  : Calls Tryd.prog 31 #[(Ins.mk 4 false true 0 0 0 0 0 off cond 0).val] w fun e w' => e = .returned (.int .u32 (wordR (Ins.mk 4 false true 0 0 0 0 0 off cond 0))) ∧ Below w.heap.size w w' := by
  have p0 : PSt w ((w.alloc (.cells #[.int .i64 4, .bool false, .bool true, .int .i64 0, .int .i64 0, .int .i64 0, .int .i64 0, .int .i64 0, .int .i64 off, .int .i64 cond, .int .i64 0] 29)).alloc (.cells #[.int .u32 0] 31)) w.heap.size (w.heap.size + 1) #[.int .i64 4, .bool false, .bool true, .int .i64 0, .int .i64 0, .int .i64 0, .int .i64 0, .int .i64 0, .int .i64 off, .int .i64 cond, .int .i64 0] 0 0 := by
    have h := (Sep.nil w).alloc2 #[.int .i64 4, .bool false, .bool true, .int .i64 0, .int .i64 0, .int .i64 0, .int .i64 0, .int .i64 0, .int .i64 off, .int .i64 cond, .int .i64 0] #[.int .u32 0] 29 31
    exact ⟨h.at 1 rfl, h.at 0 rfl, FB.zero, bel2 _ _ _, Nat.le_refl _, Nat.lt_succ_self _⟩
  have P0 := Lib.hid p0
  clear p0
  go_enter Tryd.func31, Tryd.ntmps31
  go_wp2_with fail
  refine (put_pst P0.out 3 2 2 (by decide) (by simp)).mono ?_
  rintro e w1 ⟨rfl, p⟩
  have P1 := Lib.hid p
  clear p
  have c0 : w1.cell? ⟨w.heap.size, 0, none⟩ = some (.int .i64 4) := (P1.out.I.cell 0).trans rfl
  go_wp2_with fail
  refine (bit_b01 true _).mono ?_
  rintro e w' ⟨rfl, rfl⟩
  go_wp2_with fail
  refine (put_pst P1.out (b01 true) 1 1 (by decide) (by simp)).mono ?_
  rintro e w2 ⟨rfl, p⟩
  have P2 := Lib.hid p
  clear p c0
  have c2 : w2.cell? ⟨w.heap.size, 2, none⟩ = some (.bool true) := (P2.out.I.cell 2).trans rfl
  have c0 : w2.cell? ⟨w.heap.size, 0, none⟩ = some (.int .i64 4) := (P2.out.I.cell 0).trans rfl
  go_wp2_with fail
  refine (bit_b01 true _).mono ?_
  rintro e w' ⟨rfl, rfl⟩
  go_wp2_with fail
  refine (put_pst P2.out (b01 true) 1 1 (by decide) (by simp)).mono ?_
  rintro e w3 ⟨rfl, p⟩
  have P3 := Lib.hid p
  clear p c2 c0
  have c9 : w3.cell? ⟨w.heap.size, 9, none⟩ = some (.int .i64 cond) := (P3.out.I.cell 9).trans rfl
  go_wp2_with fail
  refine (put_pst P3.out cond 4 4 (by decide) (by simp)).mono ?_
  rintro e w4 ⟨rfl, p⟩
  have P4 := Lib.hid p
  clear p c9
  have c0 : w4.cell? ⟨w.heap.size, 0, none⟩ = some (.int .i64 4) := (P4.out.I.cell 0).trans rfl
  have c8 : w4.cell? ⟨w.heap.size, 8, none⟩ = some (.int .i64 off) := (P4.out.I.cell 8).trans rfl
  go_wp2_with fail
  refine (put_pst P4.out off 24 24 (by decide) (by simp)).mono ?_
  rintro e w5 ⟨rfl, p⟩
  have P5 := Lib.hid p
  clear p c0 c8
  have cx : w5.cell? ⟨w.heap.size + 1, 0, none⟩ = some (.int .u32 _) := (P5.out.X.cell 0).trans rfl
  go_wp2_with fail
  go_ret
  exact ⟨ret_int (by simp [wordR, b01]), P5.out.B⟩

set_option maxRecDepth 20000 in
set_option maxHeartbeats 8000000 in
theorem pack_5_false (cond c : Int) (w : World)  : Calls Tryd.prog 31 #[(Ins.mk 5 false false 0 0 c 0 0 0 cond 0).val] w fun e w' => e = .returned (.int .u32 (wordR (Ins.mk 5 false false 0 0 c 0 0 0 cond 0))) ∧ Below w.heap.size w w' := by
  have p0 : PSt w ((w.alloc (.cells #[.int .i64 5, .bool false, .bool false, .int .i64 0, .int .i64 0, .int .i64 c, .int .i64 0, .int .i64 0, .int .i64 0, .int .i64 cond, .int .i64 0] 29)).alloc (.cells #[.int .u32 0] 31)) w.heap.size (w.heap.size + 1) #[.int .i64 5, .bool false, .bool false, .int .i64 0, .int .i64 0, .int .i64 c, .int .i64 0, .int .i64 0, .int .i64 0, .int .i64 cond, .int .i64 0] 0 0 := by
    have h := (Sep.nil w).alloc2 #[.int .i64 5, .bool false, .bool false, .int .i64 0, .int .i64 0, .int .i64 c, .int .i64 0, .int .i64 0, .int .i64 0, .int .i64 cond, .int .i64 0] #[.int .u32 0] 29 31
    exact ⟨h.at 1 rfl, h.at 0 rfl, FB.zero, bel2 _ _ _, Nat.le_refl _, Nat.lt_succ_self _⟩
  have P0 := Lib.hid p0
  clear p0
  go_enter Tryd.func31, Tryd.ntmps31
  go_wp2_with fail
  refine (put_pst P0.out 3 2 2 (by decide) (by simp)).mono ?_
  rintro e w1 ⟨rfl, p⟩
  have P1 := Lib.hid p
  clear p
  have c0 : w1.cell? ⟨w.heap.size, 0, none⟩ = some (.int .i64 5) := (P1.out.I.cell 0).trans rfl
  go_wp2_with fail
  refine (bit_b01 false _).mono ?_
  rintro e w' ⟨rfl, rfl⟩
  go_wp2_with fail
  refine (put_pst P1.out (b01 false) 1 1 (by decide) (by simp)).mono ?_
  rintro e w2 ⟨rfl, p⟩
  have P2 := Lib.hid p
  clear p c0
  have c2 : w2.cell? ⟨w.heap.size, 2, none⟩ = some (.bool false) := (P2.out.I.cell 2).trans rfl
  have c0 : w2.cell? ⟨w.heap.size, 0, none⟩ = some (.int .i64 5) := (P2.out.I.cell 0).trans rfl
  go_wp2_with fail
  refine (bit_b01 false _).mono ?_
  rintro e w' ⟨rfl, rfl⟩
  go_wp2_with fail
  refine (put_pst P2.out (b01 false) 1 1 (by decide) (by simp)).mono ?_
  rintro e w3 ⟨rfl, p⟩
  have P3 := Lib.hid p
  clear p c2 c0
  have c9 : w3.cell? ⟨w.heap.size, 9, none⟩ = some (.int .i64 cond) := (P3.out.I.cell 9).trans rfl
  go_wp2_with fail
  refine (put_pst P3.out cond 4 4 (by decide) (by simp)).mono ?_
  rintro e w4 ⟨rfl, p⟩
  have P4 := Lib.hid p
  clear p c9
  have c0 : w4.cell? ⟨w.heap.size, 0, none⟩ = some (.int .i64 5) := (P4.out.I.cell 0).trans rfl
  have c5 : w4.cell? ⟨w.heap.size, 5, none⟩ = some (.int .i64 c) := (P4.out.I.cell 5).trans rfl
  go_wp2_with fail
  refine (put_pst P4.out c 24 24 (by decide) (by simp)).mono ?_
  rintro e w5 ⟨rfl, p⟩
  have P5 := Lib.hid p
  clear p c0 c5
  have cx : w5.cell? ⟨w.heap.size + 1, 0, none⟩ = some (.int .u32 _) := (P5.out.X.cell 0).trans rfl
  go_wp2_with fail
  go_ret
  exact ⟨ret_int (by simp [wordR, b01]), P5.out.B⟩

set_option maxRecDepth 20000 in
set_option maxHeartbeats 8000000 in
theorem pack_5_true (cond c : Int) (w : World)  : Calls Tryd.prog 31 #[(Ins.mk 5 false true 0 0 c 0 0 0 cond 0).val] w fun e w' => e = .returned (.int .u32 (wordR (Ins.mk 5 false true 0 0 c 0 0 0 cond 0))) ∧ Below w.heap.size w w' := by
  have p0 : PSt w ((w.alloc (.cells #[.int .i64 5, .bool false, .bool true, .int .i64 0, .int .i64 0, .int .i64 c, .int .i64 0, .int .i64 0, .int .i64 0, .int .i64 cond, .int .i64 0] 29)).alloc (.cells #[.int .u32 0] 31)) w.heap.size (w.heap.size + 1) #[.int .i64 5, .bool false, .bool true, .int .i64 0, .int .i64 0, .int .i64 c, .int .i64 0, .int .i64 0, .int .i64 0, .int .i64 cond, .int .i64 0] 0 0 := by
    have h := (Sep.nil w).alloc2 #[.int .i64 5, .bool false, .bool true, .int .i64 0, .int .i64 0, .int .i64 c, .int .i64 0, .int .i64 0, .int .i64 0, .int .i64 cond, .int .i64 0] #[.int .u32 0] 29 31
    exact ⟨h.at 1 rfl, h.at 0 rfl, FB.zero, bel2 _ _ _, Nat.le_refl _, Nat.lt_succ_self _⟩
  have P0 := Lib.hid p0
  clear p0
  go_enter Tryd.func31, Tryd.ntmps31
  go_wp2_with fail
  refine (put_pst P0.out 3 2 2 (by decide) (by simp)).mono ?_
  rintro e w1 ⟨rfl, p⟩
  have P1 := Lib.hid p
  clear p
  have c0 : w1.cell? ⟨w.heap.size, 0, none⟩ = some (.int .i64 5) := (P1.out.I.cell 0).trans rfl
  go_wp2_with fail
  refine (bit_b01 false _).mono ?_
  rintro e w' ⟨rfl, rfl⟩
  go_wp2_with fail
  refine (put_pst P1.out (b01 false) 1 1 (by decide) (by simp)).mono ?_
  rintro e w2 ⟨rfl, p⟩
  have P2 := Lib.hid p
  clear p c0
  have c2 : w2.cell? ⟨w.heap.size, 2, none⟩ = some (.bool true) := (P2.out.I.cell 2).trans rfl
  have c0 : w2.cell? ⟨w.heap.size, 0, none⟩ = some (.int .i64 5) := (P2.out.I.cell 0).trans rfl
  go_wp2_with fail
  refine (bit_b01 true _).mono ?_
  rintro e w' ⟨rfl, rfl⟩
  go_wp2_with fail
  refine (put_pst P2.out (b01 true) 1 1 (by decide) (by simp)).mono ?_
  rintro e w3 ⟨rfl, p⟩
  have P3 := Lib.hid p
  clear p c2 c0
  have c9 : w3.cell? ⟨w.heap.size, 9, none⟩ = some (.int .i64 cond) := (P3.out.I.cell 9).trans rfl
  go_wp2_with fail
  refine (put_pst P3.out cond 4 4 (by decide) (by simp)).mono ?_
  rintro e w4 ⟨rfl, p⟩
  have P4 := Lib.hid p
  clear p c9
  have c0 : w4.cell? ⟨w.heap.size, 0, none⟩ = some (.int .i64 5) := (P4.out.I.cell 0).trans rfl
  have c5 : w4.cell? ⟨w.heap.size, 5, none⟩ = some (.int .i64 c) := (P4.out.I.cell 5).trans rfl
  go_wp2_with fail
  refine (put_pst P4.out c 24 24 (by decide) (by simp)).mono ?_
  rintro e w5 ⟨rfl, p⟩
  have P5 := Lib.hid p
  clear p c0 c5
  have cx : w5.cell? ⟨w.heap.size + 1, 0, none⟩ = some (.int .u32 _) := (P5.out.X.cell 0).trans rfl
  go_wp2_with fail
  go_ret
  exact ⟨ret_int (by simp [wordR, b01]), P5.out.B⟩

set_option maxRecDepth 20000 in
set_option maxHeartbeats 8000000 in
theorem pack_6 (cond n : Int) (w : World) (hn : 0 ≤ n ∧ n ≤ 255) : Calls Tryd.prog 31 #[(Ins.mk 6 false false 0 0 0 0 0 0 cond n).val] w fun e w' => e = .returned (.int .u32 (wordR (Ins.mk 6 false false 0 0 0 0 0 0 cond n))) ∧ Below w.heap.size w w' := by
  have ho : bits .or .i64 (n * 16) 12 = n * 16 + 12 := by
    obtain ⟨k, rfl⟩ := Int.eq_ofNat_of_zero_le hn.1
    have := or_i64 (k * 16) 12 (by omega) (by decide)
    have e := nat_join 4 (k * 16) 12 (by omega) (by decide)
    rw [e] at this
    simpa using this
  have hn1 := hn.1
  have hn2 := hn.2
  clear hn
  have p0 : PSt w ((w.alloc (.cells #[.int .i64 6, .bool false, .bool false, .int .i64 0, .int .i64 0, .int .i64 0, .int .i64 0, .int .i64 0, .int .i64 0, .int .i64 cond, .int .i64 n] 29)).alloc (.cells #[.int .u32 0] 31)) w.heap.size (w.heap.size + 1) #[.int .i64 6, .bool false, .bool false, .int .i64 0, .int .i64 0, .int .i64 0, .int .i64 0, .int .i64 0, .int .i64 0, .int .i64 cond, .int .i64 n] 0 0 := by
    have h := (Sep.nil w).alloc2 #[.int .i64 6, .bool false, .bool false, .int .i64 0, .int .i64 0, .int .i64 0, .int .i64 0, .int .i64 0, .int .i64 0, .int .i64 cond, .int .i64 n] #[.int .u32 0] 29 31
    exact ⟨h.at 1 rfl, h.at 0 rfl, FB.zero, bel2 _ _ _, Nat.le_refl _, Nat.lt_succ_self _⟩
  have P0 := Lib.hid p0
  clear p0
  go_enter Tryd.func31, Tryd.ntmps31
  go_wp2_with fail
  refine (put_pst P0.out 3 2 2 (by decide) (by simp)).mono ?_
  rintro e w1 ⟨rfl, p⟩
  have P1 := Lib.hid p
  clear p
  have c0 : w1.cell? ⟨w.heap.size, 0, none⟩ = some (.int .i64 6) := (P1.out.I.cell 0).trans rfl
  go_wp2_with fail
  refine (bit_b01 false _).mono ?_
  rintro e w' ⟨rfl, rfl⟩
  go_wp2_with fail
  refine (put_pst P1.out (b01 false) 1 1 (by decide) (by simp)).mono ?_
  rintro e w2 ⟨rfl, p⟩
  have P2 := Lib.hid p
  clear p c0
  have c2 : w2.cell? ⟨w.heap.size, 2, none⟩ = some (.bool false) := (P2.out.I.cell 2).trans rfl
  have c0 : w2.cell? ⟨w.heap.size, 0, none⟩ = some (.int .i64 6) := (P2.out.I.cell 0).trans rfl
  go_wp2_with fail
  refine (bit_b01 true _).mono ?_
  rintro e w' ⟨rfl, rfl⟩
  go_wp2_with fail
  refine (put_pst P2.out (b01 true) 1 1 (by decide) (by simp)).mono ?_
  rintro e w3 ⟨rfl, p⟩
  have P3 := Lib.hid p
  clear p c2 c0
  have c9 : w3.cell? ⟨w.heap.size, 9, none⟩ = some (.int .i64 cond) := (P3.out.I.cell 9).trans rfl
  go_wp2_with fail
  refine (put_pst P3.out cond 4 4 (by decide) (by simp)).mono ?_
  rintro e w4 ⟨rfl, p⟩
  have P4 := Lib.hid p
  clear p c9
  have c0 : w4.cell? ⟨w.heap.size, 0, none⟩ = some (.int .i64 6) := (P4.out.I.cell 0).trans rfl
  have c10 : w4.cell? ⟨w.heap.size, 10, none⟩ = some (.int .i64 n) := (P4.out.I.cell 10).trans rfl
  go_wp2_with fail
  refine (put_pst P4.out (n * 16 + 12) 24 24 (by decide) (by simp)).mono ?_
  rintro e w5 ⟨rfl, p⟩
  have P5 := Lib.hid p
  clear p c0 c10
  have cx : w5.cell? ⟨w.heap.size + 1, 0, none⟩ = some (.int .u32 _) := (P5.out.X.cell 0).trans rfl
  go_wp2_with fail
  go_ret
  exact ⟨ret_int (by simp [wordR, b01]; unfold fld; omega), P5.out.B⟩

theorem pack_walk (i : Ins) (w : World) (h : i.May) : Calls Tryd.prog 31 #[i.val] w fun e w' => e = .returned (.int .u32 (wordR i)) ∧ Below w.heap.size w w' := by
  obtain ⟨form, u, v, a, b, c, op, im, off, cond, n⟩ := i
  obtain ⟨hf, ha, hb, hc, ho, hi, hd, hn, h0, h1, h2, h4, h5, h6, hu, hm⟩ := h
  simp only at *
  rcases (by omega : form = 0 ∨ form = 1 ∨ form = 2 ∨ form = 3 ∨ form = 4 ∨ form = 5 ∨ form = 6) with rfl | rfl | rfl | rfl | rfl | rfl | rfl
  · obtain ⟨rfl, rfl, rfl, rfl, rfl⟩ := h0 rfl
    exact pack_0 u a b c op w hc
  · obtain ⟨rfl, rfl, rfl, rfl⟩ := h1 rfl
    exact pack_1 u v a b op im w hi
  · obtain ⟨rfl, rfl, rfl, rfl, rfl, rfl, _⟩ := h2 (.inl rfl)
    exact pack_2 v a b off w
  · obtain ⟨rfl, rfl, rfl, rfl, rfl, rfl, _⟩ := h2 (.inr rfl)
    exact pack_3 v a b off w
  · obtain ⟨rfl, rfl, rfl, rfl, rfl, rfl, rfl, _⟩ := h4 rfl
    cases v
    · exact pack_4_false cond off w
    · exact pack_4_true cond off w
  · obtain ⟨rfl, rfl, rfl, rfl, rfl, rfl, rfl, _⟩ := h5 rfl
    cases v
    · exact pack_5_false cond c w
    · exact pack_5_true cond c w
  · obtain ⟨rfl, rfl, rfl, rfl, rfl, rfl, rfl, rfl⟩ := h6 rfl
    exact pack_6 cond n w hn

end Go.Proofs.YtmnmbpenonodiaaDoor
