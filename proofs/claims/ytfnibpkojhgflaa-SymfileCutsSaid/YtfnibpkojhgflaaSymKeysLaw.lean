/- Walk: the law SymfileKeys. Printed by bin/gen_sym8keys.py. -/
import Derived.Test.YtfnibpkojhgflaaSymBytesLaw
import Derived.Test.YtfnibpkojhgflaaSymBytesOwn
namespace Go.Proofs.Ytfnibpkojhgflaa
set_option linter.unusedVariables false
set_option linter.unusedSimpArgs false
open Go.RowKit
/-- the bytes of K, of which the first j are k's. -/
def mixW (k K : Int) : Nat → List Int
  | 0 => [K % 256, K / 256 % 256, K / 65536 % 256, K / 16777216 % 256]
  | 1 => [k % 256, K / 256 % 256, K / 65536 % 256, K / 16777216 % 256]
  | 2 => [k % 256, k / 256 % 256, K / 65536 % 256, K / 16777216 % 256]
  | 3 => [k % 256, k / 256 % 256, k / 65536 % 256, K / 16777216 % 256]
  | _ => [k % 256, k / 256 % 256, k / 65536 % 256, k / 16777216 % 256]
def keyed (f : FD) (k : Int) (j : Nat) : List Int := ([83, 49] ++ nameB f.name) ++ (mixW k (Key.of (restF f)) j ++ restF f)
theorem keyed0 (f : FD) (k : Int) : keyed f k 0 = bytesF f := by
  unfold keyed bytesF
  rw [List.append_assoc]; rfl
theorem keyed4 (f : FD) (k : Int) {j : Nat} (h : 4 ≤ j) : keyed f k j = [83, 49] ++ (nameB f.name ++ (wordB k ++ restF f)) := by
  obtain ⟨i, rfl⟩ : ∃ i, j = i + 4 := ⟨j - 4, by omega⟩
  unfold keyed
  rw [List.append_assoc]; rfl
theorem keyed_len (f : FD) (k : Int) {j : Nat} (h : j ≤ 4) : (keyed f k j).length = (bytesF f).length := by
  rw [← keyed0 f k]
  unfold keyed
  simp only [List.length_append]
  rcases (by omega : j = 0 ∨ j = 1 ∨ j = 2 ∨ j = 3 ∨ j = 4) with rfl | rfl | rfl | rfl | rfl <;> rfl
theorem set_at {A B : List Int} {m j : Nat} (hm : A.length = m) (v : Int) : (A ++ B).set (m + j) v = A ++ B.set j v := by
  subst hm
  rw [List.set_append_right _ _ (by omega)]
  simp
theorem keyed_set (f : FD) (k : Int) {j : Nat} (hj : j < 4) {v : Int} (hv : (mixW k (Key.of (restF f)) j).set j v = mixW k (Key.of (restF f)) (j + 1)) : (keyed f k j).set (3 + f.name.size + j) v = keyed f k (j + 1) := by
  unfold keyed
  have e : ([83, 49] ++ nameB f.name).length = 3 + f.name.size := by unfold nameB; simp only [List.length_append, List.length_cons, bytesI_len, List.length_nil]; omega
  have hl : (mixW k (Key.of (restF f)) j).length = 4 := by rcases (by omega : j = 0 ∨ j = 1 ∨ j = 2 ∨ j = 3) with rfl | rfl | rfl | rfl <;> rfl
  rw [set_at e, List.set_append_left _ _ (by rw [hl]; exact hj), hv]
theorem keyed_none {f : FD} (hf : FIn f) {k : Int} (hk : 0 ≤ k ∧ k < 4294967296) (h : ¬ k = Key.of (restF f)) : ofF (keyed f k 4) = none := by
  rw [keyed4 f k (Nat.le_refl _)]
  refine ofF_key (rSome_full [83, 49] _ 2 rfl) (rNm_reads.full _ _ hf.name) (rWord_reads.full _ _ hk) (fun r e => ?_)
  obtain rfl := Option.some.inj e
  exact fun q => h q.symm
theorem keyed_same {f : FD} {k : Int} (h : k = Key.of (restF f)) : keyed f k 4 = bytesF f := by
  rw [keyed4 f k (Nat.le_refl _), h]; rfl
theorem wrap8m (x : Int) : IntKind.u8.wrap x = x % 256 := by
  simp [IntKind.wrap, IntKind.bits, IntKind.signed]
theorem isb (x : Int) : isByte (x % 256) := ⟨by omega, by omega⟩
theorem keyed_byte {f : FD} {wf : World} {x : Fc} (hx : x.d = f) (hm : mayFace f = true) {a : Option Addr} {c : Nat} {w : World} (hr : RdI .u8 w a c (bytesF f)) (k : Int) (j : Nat) : ∀ y ∈ keyed f k j, isByte y := by
  have hb : ∀ y ∈ bytesF f, isByte y := fun y hy => bd_u8 (hr.bd y hy)
  intro y hy
  unfold keyed at hy
  rcases List.mem_append.1 hy with h | h
  · exact hb y (by unfold bytesF; rw [← List.append_assoc]; exact List.mem_append_left _ h)
  · rcases List.mem_append.1 h with h | h
    · unfold mixW at h
      split at h <;> (simp only [List.mem_cons, List.not_mem_nil, or_false] at h; rcases h with rfl | rfl | rfl | rfl <;> exact isb _)
    · exact hb y (by unfold bytesF; exact List.mem_append_right _ (List.mem_append_right _ (List.mem_append_right _ h)))
theorem fdiv_pow {k : Int} {n : Nat} (m : Int) (hm : (2 : Int) ^ n = m) (h0 : 0 ≤ m) : Int.fdiv k (2 ^ n) = k / m := by rw [hm]; exact Int.fdiv_eq_ediv_of_nonneg _ h0

set_option maxHeartbeats 1000000 in
theorem keysLaw_walk (x : Fc) (k : Int) (w : World) (hx : x.Rd w) (hk : 0 ≤ k ∧ k < 4294967296) : Calls Try.prog 6 #[x.val, .int .u32 k] w fun e w' => e = .returned (.bool true) ∧ Below w.heap.size w w' := by
  obtain ⟨mu, hmu⟩ : ∃ b, muchF x.d = b := ⟨_, rfl⟩
  obtain ⟨my, hmy⟩ : ∃ b, mayFace x.d = b := ⟨_, rfl⟩
  obtain ⟨KK, hKK⟩ : ∃ K, K = Key.of (restF x.d) := ⟨_, rfl⟩
  have hKb : 0 ≤ KK ∧ KK < 4294967296 := by rw [hKK]; exact Key.of_bd _
  obtain ⟨xn, ⟨xa1, xc1, xl1⟩, ⟨xa2, xc2, xl2⟩, ⟨xa3, xc3, xl3⟩⟩ := x
  have hlen3 : 3 + xn.size + 4 ≤ (bytesF (⟨xn, ⟨xa1, xc1, xl1⟩, ⟨xa2, xc2, xl2⟩, ⟨xa3, xc3, xl3⟩⟩ : Fc).d).length := by
    have e1 : (nameB xn).length = xn.size + 1 := by unfold nameB; rw [List.length_cons, bytesI_len]
    have e : (bytesF (⟨xn, ⟨xa1, xc1, xl1⟩, ⟨xa2, xc2, xl2⟩, ⟨xa3, xc3, xl3⟩⟩ : Fc).d).length = 2 + ((nameB xn).length + (4 + (restF (⟨xn, ⟨xa1, xc1, xl1⟩, ⟨xa2, xc2, xl2⟩, ⟨xa3, xc3, xl3⟩⟩ : Fc).d).length)) := by unfold bytesF; simp only [List.length_append]; rfl
    omega
  refine SC.enter (vs := [.agg #[.string xn, .slice xa1 xl1.length xc1, .slice xa2 xl2.length xc2, .slice xa3 xl3.length xc3], .int .u32 k]) (n := 68) (l := [(0, .agg #[.string xn, .slice xa1 xl1.length xc1, .slice xa2 xl2.length xc2, .slice xa3 xl3.length xc3]), (1, .int .u32 k)]) Try.func6 (by kernel_rfl) (by kernel_rfl) (by kernel_rfl) (by kernel_rfl) ?_
  have M0 := Mem.start w
  refine SC.seq (by kernel_rfl) ?_
  refine SC.region [0, 1] (by kernel_rfl) (by kernel_rfl) ?_
  refine SL.boxM (d := 2) (t := 26) (v := .agg #[.string xn, .slice xa1 xl1.length xc1, .slice xa2 xl2.length xc2, .slice xa3 xl3.length xc3]) (cs := #[.string xn, .slice xa1 xl1.length xc1, .slice xa2 xl2.length xc2, .slice xa3 xl3.length xc3]) M0 (by kernel_rfl) rfl ?_
  intro g1 w2 hb3 ⟨bg1, lg1⟩ M4
  refine SL.run (d := 4) (v := .bool false) (by kernel_rfl) ?_
  refine SL.nil ?_
  refine SC.next ?_
  refine SC.seq (by kernel_rfl) ?_
  refine SC.seq (by kernel_rfl) ?_
  refine SC.region [0, 1, 2, 3, 4, 5, 6] (by kernel_rfl) (by kernel_rfl) ?_
  refine SL.load (d := 12) (t := 26) (a := .pointer (some ⟨g1, 0, none⟩)) (v := .agg #[.string xn, .slice xa1 xl1.length xc1, .slice xa2 xl2.length xc2, .slice xa3 xl3.length xc3]) (by kernel_rfl) (M4.ldBox 0 rfl Try.underlying26 rfl (by kernel_rfl)) ?_
  refine SL.call (d := 13) (f := 9) (vs := [.agg #[.string xn, .slice xa1 xl1.length xc1, .slice xa2 xl2.length xc2, .slice xa3 xl3.length xc3]]) (by kernel_rfl) (by kernel_rfl) (by have := muchF_walk (⟨xn, ⟨xa1, xc1, xl1⟩, ⟨xa2, xc2, xl2⟩, ⟨xa3, xc3, xl3⟩⟩ : Fc) w2 (hx.bel M4.bel); rw [hmu] at this; exact this) ?_
  rintro e w5 ⟨rfl, hb6⟩
  refine ⟨_, rfl, ?_⟩
  have M7 := M4.call hb6
  refine SL.run (d := 14) (v := .bool mu) (by kernel_rfl) ?_
  cases mu
  · skip
    refine SL.load (d := 15) (t := 26) (a := .pointer (some ⟨g1, 0, none⟩)) (v := .agg #[.string xn, .slice xa1 xl1.length xc1, .slice xa2 xl2.length xc2, .slice xa3 xl3.length xc3]) (by kernel_rfl) (M7.ldBox 0 rfl Try.underlying26 rfl (by kernel_rfl)) ?_
    refine SL.call (d := 16) (f := 15) (vs := [.agg #[.string xn, .slice xa1 xl1.length xc1, .slice xa2 xl2.length xc2, .slice xa3 xl3.length xc3]]) (by kernel_rfl) (by kernel_rfl) (by have := rmay_walk (⟨xn, ⟨xa1, xc1, xl1⟩, ⟨xa2, xc2, xl2⟩, ⟨xa3, xc3, xl3⟩⟩ : Fc) w5 (hx.bel M7.bel); rw [hmy] at this; exact this) ?_
    rintro e w8 ⟨rfl, hb9⟩
    refine ⟨_, rfl, ?_⟩
    have M10 := M7.call hb9
    cases my
    · skip
      refine SL.run (d := 17) (v := .bool true) (by kernel_rfl) ?_
      refine SL.pick (d := 18) (v := .bool true) (by kernel_rfl) ?_
      refine SL.nil ?_
      refine SC.next ?_
      refine SC.yes (by kernel_rfl) ?_
      refine SC.seq (by kernel_rfl) ?_
      refine SC.region [0, 1] (by kernel_rfl) (by kernel_rfl) ?_
      refine SL.call (d := 19) (f := 11) (vs := []) (by kernel_rfl) (by kernel_rfl) (known_walk w8) ?_
      rintro e w11 ⟨rfl, hb12⟩
      refine ⟨_, rfl, ?_⟩
      have M13 := M10.call hb12
      refine SL.run (d := 4) (v := .bool true) (by kernel_rfl) ?_
      refine SL.nil ?_
      refine SC.next ?_
      refine SC.ret (by kernel_rfl) ?_
      refine SQ.seqExit (by nofun) ?_
      refine SQ.ret1 (t := 4) (v := .bool true) (.inr rfl) (by kernel_rfl) (by kernel_rfl) ?_
      exact ⟨rfl, M13.bel⟩
    · skip
      refine SL.run (d := 17) (v := .bool false) (by kernel_rfl) ?_
      refine SL.pick (d := 18) (v := .bool false) (by kernel_rfl) ?_
      refine SL.nil ?_
      refine SC.next ?_
      refine SC.no (by kernel_rfl) ?_
      refine SC.skip (by kernel_rfl) ?_
      refine SC.next ?_
      refine SC.seq (by kernel_rfl) ?_
      refine SC.region [0, 1, 2, 3, 4, 5, 6] (by kernel_rfl) (by kernel_rfl) ?_
      refine SL.load (d := 21) (t := 26) (a := .pointer (some ⟨g1, 0, none⟩)) (v := .agg #[.string xn, .slice xa1 xl1.length xc1, .slice xa2 xl2.length xc2, .slice xa3 xl3.length xc3]) (by kernel_rfl) (M10.ldBox 0 rfl Try.underlying26 rfl (by kernel_rfl)) ?_
      refine SL.call (d := 22) (f := 19) (vs := [.agg #[.string xn, .slice xa1 xl1.length xc1, .slice xa2 xl2.length xc2, .slice xa3 xl3.length xc3]]) (by kernel_rfl) (by kernel_rfl) (rbytes_own (⟨xn, ⟨xa1, xc1, xl1⟩, ⟨xa2, xc2, xl2⟩, ⟨xa3, xc3, xl3⟩⟩ : Fc) w8 (hx.bel M10.bel) (small_of hmy)) ?_
      rintro e w14 ⟨a1, c1, rfl, hr1, ho1, hb15⟩
      refine ⟨_, rfl, ?_⟩
      have hbl := bytesF_len (f := (⟨xn, ⟨xa1, xc1, xl1⟩, ⟨xa2, xc2, xl2⟩, ⟨xa3, xc3, xl3⟩⟩ : Fc)) hmy
      obtain ⟨kg, rfl, hc1, _⟩ := own_open (own_base ho1 (Nat.zero_le _)) (by omega)
      have M16 : Mem w w14 (rw' (some ⟨kg, 0, none⟩) (bytesF (⟨xn, ⟨xa1, xc1, xl1⟩, ⟨xa2, xc2, xl2⟩, ⟨xa3, xc3, xl3⟩⟩ : Fc).d).length c1 5 1 ((keyed (⟨xn, ⟨xa1, xc1, xl1⟩, ⟨xa2, xc2, xl2⟩, ⟨xa3, xc3, xl3⟩⟩ : Fc).d k 0).map (Value.int .u8)) :: [bx g1 #[.string xn, .slice xa1 xl1.length xc1, .slice xa2 xl2.length xc2, .slice xa3 xl3.length xc3] 26]) := by rw [keyed0]; exact Mem.add (r := rw' (some ⟨kg, 0, none⟩) (bytesF (⟨xn, ⟨xa1, xc1, xl1⟩, ⟨xa2, xc2, xl2⟩, ⟨xa3, xc3, xl3⟩⟩ : Fc).d).length c1 5 1 ((bytesF (⟨xn, ⟨xa1, xc1, xl1⟩, ⟨xa2, xc2, xl2⟩, ⟨xa3, xc3, xl3⟩⟩ : Fc).d).map (Value.int .u8))) M10 hb15 (own_base ho1 (Nat.zero_le _)) (fun b hb => ho1.lt b hb)
      have hkb : ∀ j, ∀ y ∈ keyed (⟨xn, ⟨xa1, xc1, xl1⟩, ⟨xa2, xc2, xl2⟩, ⟨xa3, xc3, xl3⟩⟩ : Fc).d k j, isByte y := keyed_byte (x := (⟨xn, ⟨xa1, xc1, xl1⟩, ⟨xa2, xc2, xl2⟩, ⟨xa3, xc3, xl3⟩⟩ : Fc)) (wf := w) rfl hmy hr1 k
      rw [← hKK]
      refine SL.run (d := 20) (v := .tuple #[.slice (some ⟨kg, 0, none⟩) ((bytesF (⟨xn, ⟨xa1, xc1, xl1⟩, ⟨xa2, xc2, xl2⟩, ⟨xa3, xc3, xl3⟩⟩ : Fc).d).length) c1, .int .u32 KK]) (by kernel_rfl) ?_
      refine SL.run (d := 23) (v := .slice (some ⟨kg, 0, none⟩) ((bytesF (⟨xn, ⟨xa1, xc1, xl1⟩, ⟨xa2, xc2, xl2⟩, ⟨xa3, xc3, xl3⟩⟩ : Fc).d).length) c1) (by kernel_rfl) ?_
      refine SL.run (d := 24) (v := .int .u32 KK) (by kernel_rfl) ?_
      refine SL.run (d := 5) (v := .slice (some ⟨kg, 0, none⟩) ((bytesF (⟨xn, ⟨xa1, xc1, xl1⟩, ⟨xa2, xc2, xl2⟩, ⟨xa3, xc3, xl3⟩⟩ : Fc).d).length) c1) (by kernel_rfl) ?_
      refine SL.run (d := 6) (v := .int .u32 KK) (by kernel_rfl) ?_
      refine SL.nil ?_
      refine SC.next ?_
      refine SC.seq (by kernel_rfl) ?_
      refine SC.region [0, 1, 2, 3, 4] (by kernel_rfl) (by kernel_rfl) ?_
      refine SL.run (d := 25) (v := .pointer (some ⟨g1, 0, none⟩)) (by kernel_rfl) ?_
      refine SL.load (d := 26) (t := 9) (a := .pointer (some ⟨g1, 0, none⟩)) (v := .string xn) (by kernel_rfl) (M16.ldCell 1 rfl (j := 0) (v := .string xn) rfl Try.underlying9 rfl) ?_
      refine SL.builtin (d := 27) (b := .len) (ts := [9]) (ty := 3) (vs := [.string xn]) (v := .int .i64 ((xn.size : Nat) : Int)) (by kernel_rfl) (fun k => run_slen Try.underlying9 k) ?_
      refine SL.int (d := 28) (q := .i64) (x := IntKind.wrap .i64 ((3 : Int) + ((xn.size : Nat) : Int))) (y := ((3 + xn.size : Nat) : Int)) (wr64 (by omega) (by omega) (by omega)) (by kernel_rfl) ?_
      refine SL.run (d := 7) (v := .int .i64 ((3 + xn.size : Nat) : Int)) (by kernel_rfl) ?_
      refine SL.nil ?_
      refine SC.next ?_
      refine SC.keep (l' := [(1, .int .u32 k), (4, .bool false), (5, .slice (some ⟨kg, 0, none⟩) ((bytesF (⟨xn, ⟨xa1, xc1, xl1⟩, ⟨xa2, xc2, xl2⟩, ⟨xa3, xc3, xl3⟩⟩ : Fc).d).length) c1), (6, .int .u32 KK), (7, .int .i64 ((3 + xn.size : Nat) : Int))]) [1, 4, 5, 6, 7] (by kernel_rfl) ?_
      refine SC.seq (by kernel_rfl) ?_
      refine SC.seq (by kernel_rfl) ?_
      refine SC.region [0] (by kernel_rfl) (by kernel_rfl) ?_
      refine SL.run (d := 8) (v := .int .i64 0) (by kernel_rfl) ?_
      refine SL.nil ?_
      refine SC.next ?_
      refine SC.block (i := 0) (by kernel_rfl) ?_
      refine SC.loopA (X := Nat) (fun x => [(1, .int .u32 k), (4, .bool false), (5, .slice (some ⟨kg, 0, none⟩) ((bytesF (⟨xn, ⟨xa1, xc1, xl1⟩, ⟨xa2, xc2, xl2⟩, ⟨xa3, xc3, xl3⟩⟩ : Fc).d).length) c1), (6, .int .u32 KK), (7, .int .i64 ((3 + xn.size : Nat) : Int)), (8, .int .i64 ((x : Nat) : Int))]) (fun x wr => Mem w wr ([rw' (some ⟨kg, 0, none⟩) ((bytesF (⟨xn, ⟨xa1, xc1, xl1⟩, ⟨xa2, xc2, xl2⟩, ⟨xa3, xc3, xl3⟩⟩ : Fc).d).length) c1 5 1 ((keyed (⟨xn, ⟨xa1, xc1, xl1⟩, ⟨xa2, xc2, xl2⟩, ⟨xa3, xc3, xl3⟩⟩ : Fc).d k x).map (Value.int .u8)), bx g1 #[.string xn, .slice xa1 xl1.length xc1, .slice xa2 xl2.length xc2, .slice xa3 xl3.length xc3] 26]) ∧ (x ≤ 4)) (fun x => 5 - x) (PanOk.block (PanOk.seq PanOk.body)) (by kernel_rfl) 0 (by kernel_rfl) ⟨M16, Nat.zero_le _⟩ ?_
      rintro j w22 ⟨M23, hI17⟩ Q18 ag19 ex20 pn21
      replace M23 : Mem w w22 ([rw' (some ⟨kg, 0, none⟩) ((bytesF (⟨xn, ⟨xa1, xc1, xl1⟩, ⟨xa2, xc2, xl2⟩, ⟨xa3, xc3, xl3⟩⟩ : Fc).d).length) c1 5 1 ((keyed (⟨xn, ⟨xa1, xc1, xl1⟩, ⟨xa2, xc2, xl2⟩, ⟨xa3, xc3, xl3⟩⟩ : Fc).d k j).map (Value.int .u8)), bx g1 #[.string xn, .slice xa1 xl1.length xc1, .slice xa2 xl2.length xc2, .slice xa3 xl3.length xc3] 26]) := M23
      replace hI17 : j ≤ 4 := hI17
      show SC _ _ _ _ _ [(1, .int .u32 k), (4, .bool false), (5, .slice (some ⟨kg, 0, none⟩) ((bytesF (⟨xn, ⟨xa1, xc1, xl1⟩, ⟨xa2, xc2, xl2⟩, ⟨xa3, xc3, xl3⟩⟩ : Fc).d).length) c1), (6, .int .u32 KK), (7, .int .i64 ((3 + xn.size : Nat) : Int)), (8, .int .i64 ((j : Nat) : Int))] _
      have hj4 := hI17
      refine SC.seq (by kernel_rfl) ?_
      refine SC.seq (by kernel_rfl) ?_
      refine SC.region [0, 1] (by kernel_rfl) (by kernel_rfl) ?_
      refine SL.run (d := 29) (v := .int .i64 ((j : Nat) : Int)) (by kernel_rfl) ?_
      rcases Bool.eq_false_or_eq_true (decide (((j : Nat) : Int) < (4 : Int))) with h24 | h24
      · skip
        have ph24 : ((j : Nat) : Int) < (4 : Int) := of_decide_eq_true h24
        obtain rfl | rfl | rfl | rfl : j = 0 ∨ j = 1 ∨ j = 2 ∨ j = 3 := by omega
        · skip
          refine SL.run (d := 30) (v := .bool true) (by kernel_rfl) ?_
          refine SL.nil ?_
          refine SC.next ?_
          refine SC.yes (by kernel_rfl) ?_
          refine SC.skip (by kernel_rfl) ?_
          refine SC.next ?_
          refine SC.seq (by kernel_rfl) ?_
          refine SC.block (i := 1) (by kernel_rfl) ?_
          refine SC.region [0, 1, 2, 3, 4, 5, 6, 7, 8, 9, 10, 11] (by kernel_rfl) (by kernel_rfl) ?_
          refine SL.run (d := 33) (v := .slice (some ⟨kg, 0, none⟩) ((bytesF (⟨xn, ⟨xa1, xc1, xl1⟩, ⟨xa2, xc2, xl2⟩, ⟨xa3, xc3, xl3⟩⟩ : Fc).d).length) c1) (by kernel_rfl) ?_
          refine SL.run (d := 34) (v := .int .i64 ((3 + xn.size : Nat) : Int)) (by kernel_rfl) ?_
          refine SL.run (d := 35) (v := .int .i64 0) (by kernel_rfl) ?_
          refine SL.int (d := 36) (q := .i64) (x := IntKind.wrap .i64 (((3 + xn.size : Nat) : Int) + (0 : Int))) (y := (((3 + xn.size) + 0 : Nat) : Int)) (wr64 (by omega) (by omega) (by omega)) (by kernel_rfl) ?_
          refine SL.run (d := 37) (v := .int .u32 k) (by kernel_rfl) ?_
          refine SL.run (d := 38) (v := .int .i64 0) (by kernel_rfl) ?_
          refine SL.run (d := 39) (v := .int .i64 0) (by kernel_rfl) ?_
          refine SL.run (d := 40) (v := .int .u64 0) (by kernel_rfl) ?_
          refine SL.int (d := 41) (q := .u32) (x := Int.fdiv k (2 ^ 0)) (y := k / 1) (fdiv_pow 1 (by decide) (by decide)) (by kernel_rfl) ?_
          refine SL.int (d := 42) (q := .u8) (x := IntKind.wrap .u8 (k / 1)) (y := k % 256) ((wrap8m _).trans (by omega)) (by kernel_rfl) ?_
          refine SL.index (d := 43) (t := 46) (e := 5) (b := kg) (o := 0) (len := (bytesF (⟨xn, ⟨xa1, xc1, xl1⟩, ⟨xa2, xc2, xl2⟩, ⟨xa3, xc3, xl3⟩⟩ : Fc).d).length) (cap := c1) (sz := 1) (k := .i64) (m := (((3 + xn.size) + 0 : Nat) : Int)) ((3 + xn.size) + 0) (by kernel_rfl) Try.underlying46 (by kernel_rfl) rfl (by omega) ?_
          have hks := keyed_len (⟨xn, ⟨xa1, xc1, xl1⟩, ⟨xa2, xc2, xl2⟩, ⟨xa3, xc3, xl3⟩⟩ : Fc).d k (j := 0) (by decide)
          refine SL.storeM (t := 5) (a := .pointer (some ⟨kg, 0 + ((3 + xn.size) + 0) * 1, none⟩)) (v := .int .u8 (k % 256)) (L' := [rw' (some ⟨kg, 0, none⟩) ((bytesF (⟨xn, ⟨xa1, xc1, xl1⟩, ⟨xa2, xc2, xl2⟩, ⟨xa3, xc3, xl3⟩⟩ : Fc).d).length) c1 5 1 ((keyed (⟨xn, ⟨xa1, xc1, xl1⟩, ⟨xa2, xc2, xl2⟩, ⟨xa3, xc3, xl3⟩⟩ : Fc).d k 1).map (Value.int .u8)), bx g1 #[.string xn, .slice xa1 xl1.length xc1, .slice xa2 xl2.length xc2, .slice xa3 xl3.length xc3] 26]) (by kernel_rfl) (Mem.stRow' M23 0 rfl (3 + xn.size + 0) (by rw [List.length_map, hks]; have := hlen3; omega) rfl (by kernel_rfl) (by rw [← List.map_set]; exact congrArg _ (keyed_set (⟨xn, ⟨xa1, xc1, xl1⟩, ⟨xa2, xc2, xl2⟩, ⟨xa3, xc3, xl3⟩⟩ : Fc).d k (by decide) rfl)) (by omega)) ?_
          intro w25 M26 hk27 shk27
          refine SL.nil ?_
          refine SQ.blockNormal ?_
          refine SC.next ?_
          refine SC.region [0, 1, 2] (by kernel_rfl) (by kernel_rfl) ?_
          refine SL.run (d := 31) (v := .int .i64 0) (by kernel_rfl) ?_
          refine SL.run (d := 32) (v := .int .i64 1) (by kernel_rfl) ?_
          refine SL.run (d := 8) (v := .int .i64 1) (by kernel_rfl) ?_
          refine SL.nil ?_
          exact ag19 1 (by kernel_rfl) ⟨M26, (by omega)⟩ (by omega)
        · skip
          refine SL.run (d := 30) (v := .bool true) (by kernel_rfl) ?_
          refine SL.nil ?_
          refine SC.next ?_
          refine SC.yes (by kernel_rfl) ?_
          refine SC.skip (by kernel_rfl) ?_
          refine SC.next ?_
          refine SC.seq (by kernel_rfl) ?_
          refine SC.block (i := 1) (by kernel_rfl) ?_
          refine SC.region [0, 1, 2, 3, 4, 5, 6, 7, 8, 9, 10, 11] (by kernel_rfl) (by kernel_rfl) ?_
          refine SL.run (d := 33) (v := .slice (some ⟨kg, 0, none⟩) ((bytesF (⟨xn, ⟨xa1, xc1, xl1⟩, ⟨xa2, xc2, xl2⟩, ⟨xa3, xc3, xl3⟩⟩ : Fc).d).length) c1) (by kernel_rfl) ?_
          refine SL.run (d := 34) (v := .int .i64 ((3 + xn.size : Nat) : Int)) (by kernel_rfl) ?_
          refine SL.run (d := 35) (v := .int .i64 1) (by kernel_rfl) ?_
          refine SL.int (d := 36) (q := .i64) (x := IntKind.wrap .i64 (((3 + xn.size : Nat) : Int) + (1 : Int))) (y := (((3 + xn.size) + 1 : Nat) : Int)) (wr64 (by omega) (by omega) (by omega)) (by kernel_rfl) ?_
          refine SL.run (d := 37) (v := .int .u32 k) (by kernel_rfl) ?_
          refine SL.run (d := 38) (v := .int .i64 1) (by kernel_rfl) ?_
          refine SL.run (d := 39) (v := .int .i64 8) (by kernel_rfl) ?_
          refine SL.run (d := 40) (v := .int .u64 8) (by kernel_rfl) ?_
          refine SL.int (d := 41) (q := .u32) (x := Int.fdiv k (2 ^ 8)) (y := k / 256) (fdiv_pow 256 (by decide) (by decide)) (by kernel_rfl) ?_
          refine SL.int (d := 42) (q := .u8) (x := IntKind.wrap .u8 (k / 256)) (y := (k / 256) % 256) (wrap8m _) (by kernel_rfl) ?_
          refine SL.index (d := 43) (t := 46) (e := 5) (b := kg) (o := 0) (len := (bytesF (⟨xn, ⟨xa1, xc1, xl1⟩, ⟨xa2, xc2, xl2⟩, ⟨xa3, xc3, xl3⟩⟩ : Fc).d).length) (cap := c1) (sz := 1) (k := .i64) (m := (((3 + xn.size) + 1 : Nat) : Int)) ((3 + xn.size) + 1) (by kernel_rfl) Try.underlying46 (by kernel_rfl) rfl (by omega) ?_
          have hks := keyed_len (⟨xn, ⟨xa1, xc1, xl1⟩, ⟨xa2, xc2, xl2⟩, ⟨xa3, xc3, xl3⟩⟩ : Fc).d k (j := 1) (by decide)
          refine SL.storeM (t := 5) (a := .pointer (some ⟨kg, 0 + ((3 + xn.size) + 1) * 1, none⟩)) (v := .int .u8 ((k / 256) % 256)) (L' := [rw' (some ⟨kg, 0, none⟩) ((bytesF (⟨xn, ⟨xa1, xc1, xl1⟩, ⟨xa2, xc2, xl2⟩, ⟨xa3, xc3, xl3⟩⟩ : Fc).d).length) c1 5 1 ((keyed (⟨xn, ⟨xa1, xc1, xl1⟩, ⟨xa2, xc2, xl2⟩, ⟨xa3, xc3, xl3⟩⟩ : Fc).d k 2).map (Value.int .u8)), bx g1 #[.string xn, .slice xa1 xl1.length xc1, .slice xa2 xl2.length xc2, .slice xa3 xl3.length xc3] 26]) (by kernel_rfl) (Mem.stRow' M23 0 rfl (3 + xn.size + 1) (by rw [List.length_map, hks]; have := hlen3; omega) rfl (by kernel_rfl) (by rw [← List.map_set]; exact congrArg _ (keyed_set (⟨xn, ⟨xa1, xc1, xl1⟩, ⟨xa2, xc2, xl2⟩, ⟨xa3, xc3, xl3⟩⟩ : Fc).d k (by decide) rfl)) (by omega)) ?_
          intro w28 M29 hk30 shk30
          refine SL.nil ?_
          refine SQ.blockNormal ?_
          refine SC.next ?_
          refine SC.region [0, 1, 2] (by kernel_rfl) (by kernel_rfl) ?_
          refine SL.run (d := 31) (v := .int .i64 1) (by kernel_rfl) ?_
          refine SL.run (d := 32) (v := .int .i64 2) (by kernel_rfl) ?_
          refine SL.run (d := 8) (v := .int .i64 2) (by kernel_rfl) ?_
          refine SL.nil ?_
          exact ag19 2 (by kernel_rfl) ⟨M29, (by omega)⟩ (by omega)
        · skip
          refine SL.run (d := 30) (v := .bool true) (by kernel_rfl) ?_
          refine SL.nil ?_
          refine SC.next ?_
          refine SC.yes (by kernel_rfl) ?_
          refine SC.skip (by kernel_rfl) ?_
          refine SC.next ?_
          refine SC.seq (by kernel_rfl) ?_
          refine SC.block (i := 1) (by kernel_rfl) ?_
          refine SC.region [0, 1, 2, 3, 4, 5, 6, 7, 8, 9, 10, 11] (by kernel_rfl) (by kernel_rfl) ?_
          refine SL.run (d := 33) (v := .slice (some ⟨kg, 0, none⟩) ((bytesF (⟨xn, ⟨xa1, xc1, xl1⟩, ⟨xa2, xc2, xl2⟩, ⟨xa3, xc3, xl3⟩⟩ : Fc).d).length) c1) (by kernel_rfl) ?_
          refine SL.run (d := 34) (v := .int .i64 ((3 + xn.size : Nat) : Int)) (by kernel_rfl) ?_
          refine SL.run (d := 35) (v := .int .i64 2) (by kernel_rfl) ?_
          refine SL.int (d := 36) (q := .i64) (x := IntKind.wrap .i64 (((3 + xn.size : Nat) : Int) + (2 : Int))) (y := (((3 + xn.size) + 2 : Nat) : Int)) (wr64 (by omega) (by omega) (by omega)) (by kernel_rfl) ?_
          refine SL.run (d := 37) (v := .int .u32 k) (by kernel_rfl) ?_
          refine SL.run (d := 38) (v := .int .i64 2) (by kernel_rfl) ?_
          refine SL.run (d := 39) (v := .int .i64 16) (by kernel_rfl) ?_
          refine SL.run (d := 40) (v := .int .u64 16) (by kernel_rfl) ?_
          refine SL.int (d := 41) (q := .u32) (x := Int.fdiv k (2 ^ 16)) (y := k / 65536) (fdiv_pow 65536 (by decide) (by decide)) (by kernel_rfl) ?_
          refine SL.int (d := 42) (q := .u8) (x := IntKind.wrap .u8 (k / 65536)) (y := (k / 65536) % 256) (wrap8m _) (by kernel_rfl) ?_
          refine SL.index (d := 43) (t := 46) (e := 5) (b := kg) (o := 0) (len := (bytesF (⟨xn, ⟨xa1, xc1, xl1⟩, ⟨xa2, xc2, xl2⟩, ⟨xa3, xc3, xl3⟩⟩ : Fc).d).length) (cap := c1) (sz := 1) (k := .i64) (m := (((3 + xn.size) + 2 : Nat) : Int)) ((3 + xn.size) + 2) (by kernel_rfl) Try.underlying46 (by kernel_rfl) rfl (by omega) ?_
          have hks := keyed_len (⟨xn, ⟨xa1, xc1, xl1⟩, ⟨xa2, xc2, xl2⟩, ⟨xa3, xc3, xl3⟩⟩ : Fc).d k (j := 2) (by decide)
          refine SL.storeM (t := 5) (a := .pointer (some ⟨kg, 0 + ((3 + xn.size) + 2) * 1, none⟩)) (v := .int .u8 ((k / 65536) % 256)) (L' := [rw' (some ⟨kg, 0, none⟩) ((bytesF (⟨xn, ⟨xa1, xc1, xl1⟩, ⟨xa2, xc2, xl2⟩, ⟨xa3, xc3, xl3⟩⟩ : Fc).d).length) c1 5 1 ((keyed (⟨xn, ⟨xa1, xc1, xl1⟩, ⟨xa2, xc2, xl2⟩, ⟨xa3, xc3, xl3⟩⟩ : Fc).d k 3).map (Value.int .u8)), bx g1 #[.string xn, .slice xa1 xl1.length xc1, .slice xa2 xl2.length xc2, .slice xa3 xl3.length xc3] 26]) (by kernel_rfl) (Mem.stRow' M23 0 rfl (3 + xn.size + 2) (by rw [List.length_map, hks]; have := hlen3; omega) rfl (by kernel_rfl) (by rw [← List.map_set]; exact congrArg _ (keyed_set (⟨xn, ⟨xa1, xc1, xl1⟩, ⟨xa2, xc2, xl2⟩, ⟨xa3, xc3, xl3⟩⟩ : Fc).d k (by decide) rfl)) (by omega)) ?_
          intro w31 M32 hk33 shk33
          refine SL.nil ?_
          refine SQ.blockNormal ?_
          refine SC.next ?_
          refine SC.region [0, 1, 2] (by kernel_rfl) (by kernel_rfl) ?_
          refine SL.run (d := 31) (v := .int .i64 2) (by kernel_rfl) ?_
          refine SL.run (d := 32) (v := .int .i64 3) (by kernel_rfl) ?_
          refine SL.run (d := 8) (v := .int .i64 3) (by kernel_rfl) ?_
          refine SL.nil ?_
          exact ag19 3 (by kernel_rfl) ⟨M32, (by omega)⟩ (by omega)
        · skip
          refine SL.run (d := 30) (v := .bool true) (by kernel_rfl) ?_
          refine SL.nil ?_
          refine SC.next ?_
          refine SC.yes (by kernel_rfl) ?_
          refine SC.skip (by kernel_rfl) ?_
          refine SC.next ?_
          refine SC.seq (by kernel_rfl) ?_
          refine SC.block (i := 1) (by kernel_rfl) ?_
          refine SC.region [0, 1, 2, 3, 4, 5, 6, 7, 8, 9, 10, 11] (by kernel_rfl) (by kernel_rfl) ?_
          refine SL.run (d := 33) (v := .slice (some ⟨kg, 0, none⟩) ((bytesF (⟨xn, ⟨xa1, xc1, xl1⟩, ⟨xa2, xc2, xl2⟩, ⟨xa3, xc3, xl3⟩⟩ : Fc).d).length) c1) (by kernel_rfl) ?_
          refine SL.run (d := 34) (v := .int .i64 ((3 + xn.size : Nat) : Int)) (by kernel_rfl) ?_
          refine SL.run (d := 35) (v := .int .i64 3) (by kernel_rfl) ?_
          refine SL.int (d := 36) (q := .i64) (x := IntKind.wrap .i64 (((3 + xn.size : Nat) : Int) + (3 : Int))) (y := (((3 + xn.size) + 3 : Nat) : Int)) (wr64 (by omega) (by omega) (by omega)) (by kernel_rfl) ?_
          refine SL.run (d := 37) (v := .int .u32 k) (by kernel_rfl) ?_
          refine SL.run (d := 38) (v := .int .i64 3) (by kernel_rfl) ?_
          refine SL.run (d := 39) (v := .int .i64 24) (by kernel_rfl) ?_
          refine SL.run (d := 40) (v := .int .u64 24) (by kernel_rfl) ?_
          refine SL.int (d := 41) (q := .u32) (x := Int.fdiv k (2 ^ 24)) (y := k / 16777216) (fdiv_pow 16777216 (by decide) (by decide)) (by kernel_rfl) ?_
          refine SL.int (d := 42) (q := .u8) (x := IntKind.wrap .u8 (k / 16777216)) (y := (k / 16777216) % 256) (wrap8m _) (by kernel_rfl) ?_
          refine SL.index (d := 43) (t := 46) (e := 5) (b := kg) (o := 0) (len := (bytesF (⟨xn, ⟨xa1, xc1, xl1⟩, ⟨xa2, xc2, xl2⟩, ⟨xa3, xc3, xl3⟩⟩ : Fc).d).length) (cap := c1) (sz := 1) (k := .i64) (m := (((3 + xn.size) + 3 : Nat) : Int)) ((3 + xn.size) + 3) (by kernel_rfl) Try.underlying46 (by kernel_rfl) rfl (by omega) ?_
          have hks := keyed_len (⟨xn, ⟨xa1, xc1, xl1⟩, ⟨xa2, xc2, xl2⟩, ⟨xa3, xc3, xl3⟩⟩ : Fc).d k (j := 3) (by decide)
          refine SL.storeM (t := 5) (a := .pointer (some ⟨kg, 0 + ((3 + xn.size) + 3) * 1, none⟩)) (v := .int .u8 ((k / 16777216) % 256)) (L' := [rw' (some ⟨kg, 0, none⟩) ((bytesF (⟨xn, ⟨xa1, xc1, xl1⟩, ⟨xa2, xc2, xl2⟩, ⟨xa3, xc3, xl3⟩⟩ : Fc).d).length) c1 5 1 ((keyed (⟨xn, ⟨xa1, xc1, xl1⟩, ⟨xa2, xc2, xl2⟩, ⟨xa3, xc3, xl3⟩⟩ : Fc).d k 4).map (Value.int .u8)), bx g1 #[.string xn, .slice xa1 xl1.length xc1, .slice xa2 xl2.length xc2, .slice xa3 xl3.length xc3] 26]) (by kernel_rfl) (Mem.stRow' M23 0 rfl (3 + xn.size + 3) (by rw [List.length_map, hks]; have := hlen3; omega) rfl (by kernel_rfl) (by rw [← List.map_set]; exact congrArg _ (keyed_set (⟨xn, ⟨xa1, xc1, xl1⟩, ⟨xa2, xc2, xl2⟩, ⟨xa3, xc3, xl3⟩⟩ : Fc).d k (by decide) rfl)) (by omega)) ?_
          intro w34 M35 hk36 shk36
          refine SL.nil ?_
          refine SQ.blockNormal ?_
          refine SC.next ?_
          refine SC.region [0, 1, 2] (by kernel_rfl) (by kernel_rfl) ?_
          refine SL.run (d := 31) (v := .int .i64 3) (by kernel_rfl) ?_
          refine SL.run (d := 32) (v := .int .i64 4) (by kernel_rfl) ?_
          refine SL.run (d := 8) (v := .int .i64 4) (by kernel_rfl) ?_
          refine SL.nil ?_
          exact ag19 4 (by kernel_rfl) ⟨M35, (by omega)⟩ (by omega)
      · skip
        have ph24 : ¬ (((j : Nat) : Int) < (4 : Int)) := of_decide_eq_false h24
        have hj : j = 4 := by omega
        refine SL.bool (d := 30) (x := (decide (((j : Nat) : Int) < (4 : Int)))) (y := false) h24 (by kernel_rfl) ?_
        refine SL.nil ?_
        refine SC.next ?_
        refine SC.no (by kernel_rfl) ?_
        refine SC.exit (i := 0) (by kernel_rfl) ?_
        refine SQ.seqExit (by nofun) ?_
        refine ex20 (by nofun) ?_
        refine SQ.blockHere ?_
        refine SC.next ?_
        refine SC.seq (by kernel_rfl) ?_
        subst hj
        refine SC.region [0, 1, 2, 3, 4, 5, 6, 7, 8, 9] (by kernel_rfl) (by kernel_rfl) ?_
        refine SL.run (d := 45) (v := .slice (some ⟨kg, 0, none⟩) ((bytesF (⟨xn, ⟨xa1, xc1, xl1⟩, ⟨xa2, xc2, xl2⟩, ⟨xa3, xc3, xl3⟩⟩ : Fc).d).length) c1) (by kernel_rfl) ?_
        have hks := keyed_len (⟨xn, ⟨xa1, xc1, xl1⟩, ⟨xa2, xc2, xl2⟩, ⟨xa3, xc3, xl3⟩⟩ : Fc).d k (j := 4) (Nat.le_refl _)
        have hrk : RdI .u8 w22 (some ⟨kg, 0, none⟩) c1 (keyed (⟨xn, ⟨xa1, xc1, xl1⟩, ⟨xa2, xc2, xl2⟩, ⟨xa3, xc3, xl3⟩⟩ : Fc).d k 4) := ⟨by rw [hks]; exact M23.rd 0 rfl, fun y hy => bd_u8' (hkb 4 y hy)⟩
        refine SL.call (d := 46) (f := 17) (vs := [.slice (some ⟨kg, 0, none⟩) ((bytesF (⟨xn, ⟨xa1, xc1, xl1⟩, ⟨xa2, xc2, xl2⟩, ⟨xa3, xc3, xl3⟩⟩ : Fc).d).length) c1]) (by kernel_rfl) (by kernel_rfl) (by have := of8_walk (some ⟨kg, 0, none⟩) c1 _ w22 hrk (by omega) (.inr ⟨_, _, rfl⟩); rw [hks] at this; exact this) ?_
        rintro e w37 ⟨hra, hb38⟩
        have M39 := M23.call hb38
        by_cases hkk : k = KK
        · skip
          have hof := ofF_full hmy (FIn.of hx hmy)
          rw [← keyed_same (k := k) (by rw [← hKK]; exact hkk)] at hof
          rcases hra with ⟨h, _⟩ | ⟨y, kk, h1, rfl, hy⟩
          · rw [hof] at h; cases h
          rw [hof] at h1
          obtain ⟨h1, rfl⟩ := Prod.mk.inj (Option.some.inj h1)
          obtain ⟨yn, ⟨ya1, yc1, yl1⟩, ⟨ya2, yc2, yl2⟩, ⟨ya3, yc3, yl3⟩⟩ := y
          refine ⟨_, rfl, ?_⟩
          rw [← hKK]
          refine SL.run (d := 44) (v := .tuple #[.agg #[.string yn, .slice ya1 yl1.length yc1, .slice ya2 yl2.length yc2, .slice ya3 yl3.length yc3], .int .u32 KK, .int .i64 0]) (by kernel_rfl) ?_
          refine SL.run (d := 47) (v := .agg #[.string yn, .slice ya1 yl1.length yc1, .slice ya2 yl2.length yc2, .slice ya3 yl3.length yc3]) (by kernel_rfl) ?_
          refine SL.run (d := 48) (v := .int .u32 KK) (by kernel_rfl) ?_
          refine SL.run (d := 49) (v := .int .i64 0) (by kernel_rfl) ?_
          refine SL.allocM (d := 9) (t := 26) (z := .agg #[.string ⟨#[]⟩, .slice none 0 0, .slice none 0 0, .slice none 0 0]) (cs := #[.string ⟨#[]⟩, .slice none 0 0, .slice none 0 0, .slice none 0 0]) M39 (by kernel_rfl) (by kernel_rfl) rfl ?_
          intro g40 w41 hb42 ⟨bg40, lg40⟩ M43
          refine SL.storeM (t := 26) (a := .pointer (some ⟨g40, 0, none⟩)) (v := .agg #[.string yn, .slice ya1 yl1.length yc1, .slice ya2 yl2.length yc2, .slice ya3 yl3.length yc3]) (L' := [bx g40 #[.string yn, .slice ya1 yl1.length yc1, .slice ya2 yl2.length yc2, .slice ya3 yl3.length yc3] 26, rw' (some ⟨kg, 0, none⟩) ((bytesF (⟨xn, ⟨xa1, xc1, xl1⟩, ⟨xa2, xc2, xl2⟩, ⟨xa3, xc3, xl3⟩⟩ : Fc).d).length) c1 5 1 ((keyed (⟨xn, ⟨xa1, xc1, xl1⟩, ⟨xa2, xc2, xl2⟩, ⟨xa3, xc3, xl3⟩⟩ : Fc).d k 4).map (Value.int .u8)), bx g1 #[.string xn, .slice xa1 xl1.length xc1, .slice xa2 xl2.length xc2, .slice xa3 xl3.length xc3] 26]) (by kernel_rfl) (M43.stBox 0 rfl rfl (by kernel_rfl) rfl) ?_
          intro w44 M45 hk46 shk46
          refine SL.run (d := 10) (v := .int .u32 KK) (by kernel_rfl) ?_
          refine SL.run (d := 11) (v := .int .i64 0) (by kernel_rfl) ?_
          refine SL.nil ?_
          refine SC.next ?_
          refine SC.seq (by kernel_rfl) ?_
          refine SC.seq (by kernel_rfl) ?_
          refine SC.region [0, 1, 2] (by kernel_rfl) (by kernel_rfl) ?_
          refine SL.run (d := 50) (v := .int .u32 k) (by kernel_rfl) ?_
          refine SL.run (d := 51) (v := .int .u32 KK) (by kernel_rfl) ?_
          refine SL.bool (d := 52) (x := (k == KK)) (y := true) ((int_beq _ _).trans (decide_eq_true hkk)) (by kernel_rfl) ?_
          refine SL.nil ?_
          refine SC.next ?_
          refine SC.keep (l' := [(4, .bool false), (6, .int .u32 KK), (10, .int .u32 KK), (11, .int .i64 0), (52, .bool true)]) [4, 6, 10, 11, 52] (by kernel_rfl) ?_
          refine SC.yes (by kernel_rfl) ?_
          refine SC.seq (by kernel_rfl) ?_
          refine SC.region [0, 1, 2, 3, 4, 5, 6, 7, 8, 9, 10] (by kernel_rfl) (by kernel_rfl) ?_
          refine SL.run (d := 53) (v := .int .i64 0) (by kernel_rfl) ?_
          refine SL.run (d := 54) (v := .bool true) (by kernel_rfl) ?_
          refine SL.run (d := 55) (v := .bool true) (by kernel_rfl) ?_
          refine SL.run (d := 56) (v := .int .u32 KK) (by kernel_rfl) ?_
          refine SL.run (d := 57) (v := .int .u32 KK) (by kernel_rfl) ?_
          refine SL.bool (d := 58) (x := (KK == KK)) (y := true) ((int_beq _ _).trans (decide_eq_true rfl)) (by kernel_rfl) ?_
          refine SL.pick (d := 59) (v := .bool true) (by kernel_rfl) ?_
          refine SL.run (d := 60) (v := .bool true) (by kernel_rfl) ?_
          refine SL.call (d := 61) (f := 11) (vs := []) (by kernel_rfl) (by kernel_rfl) (known_walk w44) ?_
          rintro e w47 ⟨rfl, hb48⟩
          refine ⟨_, rfl, ?_⟩
          have M49 := M45.call hb48
          refine SL.pick (d := 62) (v := .bool true) (by kernel_rfl) ?_
          refine SL.run (d := 4) (v := .bool true) (by kernel_rfl) ?_
          refine SL.nil ?_
          refine SC.next ?_
          refine SC.ret (by kernel_rfl) ?_
          refine SQ.seqExit (by nofun) ?_
          refine SQ.ret1 (t := 4) (v := .bool true) (.inr rfl) (by kernel_rfl) (by kernel_rfl) ?_
          exact ⟨rfl, M49.bel⟩
        · skip
          have hof := keyed_none (FIn.of hx hmy) hk (by rw [← hKK]; exact hkk)
          rcases hra with ⟨_, rfl⟩ | ⟨y, kk, h1, _⟩
          rotate_left
          · rw [hof] at h1; cases h1
          refine ⟨_, rfl, ?_⟩
          refine SL.run (d := 44) (v := .tuple #[.agg #[.string ⟨#[]⟩, .slice none 0 0, .slice none 0 0, .slice none 0 0], .int .u32 0, .int .i64 4]) (by kernel_rfl) ?_
          refine SL.run (d := 47) (v := .agg #[.string ⟨#[]⟩, .slice none 0 0, .slice none 0 0, .slice none 0 0]) (by kernel_rfl) ?_
          refine SL.run (d := 48) (v := .int .u32 0) (by kernel_rfl) ?_
          refine SL.run (d := 49) (v := .int .i64 4) (by kernel_rfl) ?_
          refine SL.allocM (d := 9) (t := 26) (z := .agg #[.string ⟨#[]⟩, .slice none 0 0, .slice none 0 0, .slice none 0 0]) (cs := #[.string ⟨#[]⟩, .slice none 0 0, .slice none 0 0, .slice none 0 0]) M39 (by kernel_rfl) (by kernel_rfl) rfl ?_
          intro g50 w51 hb52 ⟨bg50, lg50⟩ M53
          refine SL.storeM (t := 26) (a := .pointer (some ⟨g50, 0, none⟩)) (v := .agg #[.string ⟨#[]⟩, .slice none 0 0, .slice none 0 0, .slice none 0 0]) (L' := [bx g50 #[.string ⟨#[]⟩, .slice none 0 0, .slice none 0 0, .slice none 0 0] 26, rw' (some ⟨kg, 0, none⟩) ((bytesF (⟨xn, ⟨xa1, xc1, xl1⟩, ⟨xa2, xc2, xl2⟩, ⟨xa3, xc3, xl3⟩⟩ : Fc).d).length) c1 5 1 ((keyed (⟨xn, ⟨xa1, xc1, xl1⟩, ⟨xa2, xc2, xl2⟩, ⟨xa3, xc3, xl3⟩⟩ : Fc).d k 4).map (Value.int .u8)), bx g1 #[.string xn, .slice xa1 xl1.length xc1, .slice xa2 xl2.length xc2, .slice xa3 xl3.length xc3] 26]) (by kernel_rfl) (M53.stBox 0 rfl rfl (by kernel_rfl) rfl) ?_
          intro w54 M55 hk56 shk56
          refine SL.run (d := 10) (v := .int .u32 0) (by kernel_rfl) ?_
          refine SL.run (d := 11) (v := .int .i64 4) (by kernel_rfl) ?_
          refine SL.nil ?_
          refine SC.next ?_
          refine SC.seq (by kernel_rfl) ?_
          refine SC.seq (by kernel_rfl) ?_
          refine SC.region [0, 1, 2] (by kernel_rfl) (by kernel_rfl) ?_
          refine SL.run (d := 50) (v := .int .u32 k) (by kernel_rfl) ?_
          refine SL.run (d := 51) (v := .int .u32 KK) (by kernel_rfl) ?_
          refine SL.bool (d := 52) (x := (k == KK)) (y := false) ((int_beq _ _).trans (decide_eq_false hkk)) (by kernel_rfl) ?_
          refine SL.nil ?_
          refine SC.next ?_
          refine SC.keep (l' := [(4, .bool false), (6, .int .u32 KK), (10, .int .u32 0), (11, .int .i64 4), (52, .bool false)]) [4, 6, 10, 11, 52] (by kernel_rfl) ?_
          refine SC.no (by kernel_rfl) ?_
          refine SC.skip (by kernel_rfl) ?_
          refine SC.next ?_
          refine SC.seq (by kernel_rfl) ?_
          refine SC.region [0, 1, 2, 3, 4, 5] (by kernel_rfl) (by kernel_rfl) ?_
          refine SL.run (d := 63) (v := .int .i64 4) (by kernel_rfl) ?_
          refine SL.run (d := 64) (v := .bool true) (by kernel_rfl) ?_
          refine SL.run (d := 65) (v := .bool true) (by kernel_rfl) ?_
          refine SL.call (d := 66) (f := 11) (vs := []) (by kernel_rfl) (by kernel_rfl) (known_walk w54) ?_
          rintro e w57 ⟨rfl, hb58⟩
          refine ⟨_, rfl, ?_⟩
          have M59 := M55.call hb58
          refine SL.pick (d := 67) (v := .bool true) (by kernel_rfl) ?_
          refine SL.run (d := 4) (v := .bool true) (by kernel_rfl) ?_
          refine SL.nil ?_
          refine SC.next ?_
          refine SC.ret (by kernel_rfl) ?_
          refine SQ.ret1 (t := 4) (v := .bool true) (.inr rfl) (by kernel_rfl) (by kernel_rfl) ?_
          exact ⟨rfl, M59.bel⟩
  · skip
    refine SL.offs [3, 4, 5] (is := [6]) rfl (by kernel_rfl) ?_
    refine SL.pick (d := 18) (v := .bool true) (by kernel_rfl) ?_
    refine SL.nil ?_
    refine SC.next ?_
    refine SC.yes (by kernel_rfl) ?_
    refine SC.seq (by kernel_rfl) ?_
    refine SC.region [0, 1] (by kernel_rfl) (by kernel_rfl) ?_
    refine SL.call (d := 19) (f := 11) (vs := []) (by kernel_rfl) (by kernel_rfl) (known_walk w5) ?_
    rintro e w60 ⟨rfl, hb61⟩
    refine ⟨_, rfl, ?_⟩
    have M62 := M7.call hb61
    refine SL.run (d := 4) (v := .bool true) (by kernel_rfl) ?_
    refine SL.nil ?_
    refine SC.next ?_
    refine SC.ret (by kernel_rfl) ?_
    refine SQ.seqExit (by nofun) ?_
    refine SQ.ret1 (t := 4) (v := .bool true) (.inr rfl) (by kernel_rfl) (by kernel_rfl) ?_
    exact ⟨rfl, M62.bel⟩
end Go.Proofs.Ytfnibpkojhgflaa
