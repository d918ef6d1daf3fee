/- Contract of risc.operate. -/
import Derived.Test.YtkeaogphaifnmaaRiscNum
import Derived.Test.YtkeaogphaifnmaaRiscOf
import Derived.Test.YtkeaogphaifnmaaMixR
namespace Go.Proofs.Ytkeaogphaifnmaa
set_option linter.unusedVariables false
set_option linter.unusedSimpArgs false
open Go.RowKit

structure Cpu.Ok (c : Cpu) : Prop where
  r : ∀ j, 0 ≤ c.r j ∧ c.r j < 4294967296
  h : 0 ≤ c.h ∧ c.h < 4294967296
  pc : 0 ≤ c.pc ∧ c.pc < 4294967296

/-- an operation done; none: it is odd. -/
def Cpu.op (c : Cpu) (i : Ins) (b n : Int) : Option Cpu :=
  if i.op = 0 then some (c.set i.a n)
  else if i.op = 1 then some (c.set i.a (W.shl b (n % 32).toNat))
  else if i.op = 2 then some (c.set i.a (W.sar b (n % 32).toNat))
  else if i.op = 3 then some (c.set i.a (W.turn b (n % 32).toNat))
  else if i.op = 4 then some (c.set i.a (bits .and .u32 b n))
  else if i.op = 5 then some (c.set i.a (bits .andNot .u32 b n))
  else if i.op = 6 then some (c.set i.a (bits .or .u32 b n))
  else if i.op = 7 then some (c.set i.a (bits .xor .u32 b n))
  else if i.op = 8 then some (({ c with c := decide (4294967296 ≤ b + n + bn (i.u && c.c) 1), v := W.out (W.sg b + W.sg n + bn (i.u && c.c) 1) } : Cpu).set i.a (W.wd (b + n + bn (i.u && c.c) 1)))
  else if i.op = 9 then some (({ c with c := decide (b - n - bn (i.u && c.c) 1 < 0), v := W.out (W.sg b - W.sg n - bn (i.u && c.c) 1) } : Cpu).set i.a (W.wd (b - n - bn (i.u && c.c) 1)))
  else if i.op = 10 then some (({ c with h := W.mulHi (!i.u) b n } : Cpu).set i.a (W.mulLo (!i.u) b n))
  else if 0 < n ∧ n < 2147483648 then some (({ c with h := W.rem b n } : Cpu).set i.a (W.quo b n))
  else none

def DoIs (c : Cpu) (b : Nat) (i : Ins) (w : World) (e : Ending) (w' : World) : Prop :=
  match c.op i (c.r i.b.toNat) (c.num i) with
  | some d => e = .returned (.bool true) ∧ Holds w' b d ∧ Ke (· = b) w w'
  | none => e = .returned (.bool false) ∧ Holds w' b c ∧ Ke (· = b) w w'
theorem do_some {c d : Cpu} {b : Nat} {i : Ins} {w w' : World} {e : Ending} {m n : Int} (hn : n = c.num i) (hm : m = c.r i.b.toNat) (h : c.op i m n = some d) (he : e = .returned (.bool true)) (hh : Holds w' b d) (hk : Ke (· = b) w w') : DoIs c b i w e w' := by
  unfold DoIs; rw [← hn, ← hm, h]; exact ⟨he, hh, hk⟩
theorem do_none {c : Cpu} {b : Nat} {i : Ins} {w w' : World} {e : Ending} {m n : Int} (hn : n = c.num i) (hm : m = c.r i.b.toNat) (h : c.op i m n = none) (he : e = .returned (.bool false)) (hh : Holds w' b c) (hk : Ke (· = b) w w') : DoIs c b i w e w' := by
  unfold DoIs; rw [← hn, ← hm, h]; exact ⟨he, hh, hk⟩
theorem Ke.ofAside {b : Nat} {w w' : World} (h : Aside b w w') : Ke (· = b) w w' := ⟨h.os, h.tape, h.output, h.size, fun k hk hG => h.block k hk hG⟩

theorem wrap_u32 {x : Int} (h : 0 ≤ x ∧ x < 4294967296) : IntKind.u32.wrap x = x := by rw [IntKind.wrap_u32]; omega
theorem bits_u32 (op : BinOp) (a b : Int) : 0 ≤ bits op .u32 a b ∧ bits op .u32 a b < 4294967296 := by
  unfold bits; rw [IntKind.wrap_u32]; omega

theorem mul_u32 (s : Bool) (a b : Int) : 0 ≤ W.mulLo s a b ∧ W.mulLo s a b < 4294967296 := by unfold W.mulLo; split <;> exact ⟨Int.emod_nonneg (b := 4294967296) _ (by decide), Int.emod_lt_of_pos (b := 4294967296) _ (by decide)⟩

theorem Cpu.num_bd (c : Cpu) (i : Ins) (hk : c.Ok) : 0 ≤ c.num i ∧ c.num i < 4294967296 := by
  unfold Cpu.num
  split
  · unfold Ins.value
    split
    · split
      · omega
      · split
        · exact bits_u32 _ _ _
        · omega
    · omega
  · split
    · split
      · exact hk.h
      · simp only [Cpu.flags, flagsTo, Cpu.flag, bn]
        (repeat' split) <;> omega
    · exact hk.r _

set_option maxHeartbeats 8000000 in
theorem do_walk (c : Cpu) (b : Nat) (i : Ins) (w : World) (h : Holds w b c) (hb : 0 ≤ i.b ∧ i.b < 16) (hc : 0 ≤ i.c ∧ i.c < 16) (ha : 0 ≤ i.a ∧ i.a < 16) (ho : 0 ≤ i.op ∧ i.op ≤ 11) (hk : c.Ok) :
    Calls Try.prog 28 #[.pointer (some ⟨b, 0, none⟩), i.val] w (DoIs c b i w) := by
  have HNB := Lib.hid (c.num_bd i hk)
  have HMB := Lib.hid (hk.r i.b.toNat)
  obtain ⟨n, hn⟩ : ∃ n, n = c.num i := ⟨_, rfl⟩
  have HN := Lib.hid hn
  rw [← hn] at HNB
  clear hn
  obtain ⟨form, u, v, a, bb, cc, op, im, off, cond, nn⟩ := i
  simp only at hb ha ho
  obtain ⟨jb, rfl⟩ := Int.eq_ofNat_of_zero_le hb.1
  have hj : jb < 16 := by omega
  obtain ⟨m, hm⟩ : ∃ m, m = c.r jb := ⟨_, rfl⟩
  have HM : Hid (m = c.r (Ins.b ⟨form, u, v, a, jb, cc, op, im, off, cond, nn⟩).toNat) := hm
  have HMB : Hid (0 ≤ m ∧ m < 4294967296) := by rw [hm]; exact HMB
  have hreg : c.cells[jb]? = some (.int .u32 m) := by
    have h1 := (show Holds w b c from h).reg jb hj
    rwa [h.cell, ← hm] at h1
  clear hm
  have H0 := (Sep.one (show At w b c.cells 25 from h)).alloc (Ins.cells ⟨form, u, v, a, jb, cc, op, im, off, cond, nn⟩) 35
  have HC := Lib.hid hc
  clear h hc hb
  go_enter Try.func28, Try.ntmps28
  go_wp2_with fail
  refine wp_region_mix' [([0, 1, 2, 3, 4, 5, 6, 7, 8], 9)] [10, 11] (by kernel_rfl) (by kernel_rfl) (fun _ _ d _ _ h => by cases d <;> exact h) ?_
  intro w1 hb1
  have H1 := H0.bel hb1
  have l1 := (H1.at 1 rfl).laterCellB (v := .int .u32 m) jb hreg
  have l2 := (H1.at 0 rfl).laterCellB (v := .int .i64 jb) 4 rfl
  have l3 := fun x => ((H1.at 0 rfl).laterB x).loads (P := Try.prog) Try.underlying35 rfl (by kernel_rfl)
  refine mix_step ?_
  simp only [pickOps, nth]
  repeat (go_big_quiet_step (fail))
  go_big_quiet_want
  refine quiet_row 35 _ rfl rfl l3 ?_
  go_big_quiet_on
  refine wpQuiet_nil ?_
  go_wp2_with fail
  refine (number_walk c b ⟨form, u, v, a, jb, cc, op, im, off, cond, nn⟩ _ (H1.at 1 rfl) HC.out).mono ?_
  rw [← HN.out]
  rintro e w2 ⟨rfl, hb2⟩
  have H2 := H1.bel hb2
  have HB2 := Lib.hid hb2
  have K2 := Lib.hid (Ke.below (· = b) (bel_then (bel_then ((Below.refl w.heap.size w).alloc (Nat.le_refl _) _) hb1) hb2))
  have hcop : w2.cell? ⟨w.heap.size, 6, none⟩ = some (.int .i64 op) := (H2.at 0 rfl).cell 6
  have hca : w2.cell? ⟨w.heap.size, 3, none⟩ = some (.int .i64 a) := (H2.at 0 rfl).cell 3
  have hcu : w2.cell? ⟨w.heap.size, 1, none⟩ = some (.bool u) := (H2.at 0 rfl).cell 1
  have hcc : w2.cell? ⟨b, 19, none⟩ = some (.bool c.c) := (H2.at 1 rfl).cell 19
  clear l1 l2 l3 hb1 hb2 H0 H1
  go_wp2_with fail
  refine ⟨HB2.out, mix_end ?_⟩
  simp only [pickOps, nth]
  repeat (go_big_quiet_step (fail))
  refine wpQuiet_nil ?_
  have hops : op = 0 ∨ op = 1 ∨ op = 2 ∨ op = 3 ∨ op = 4 ∨ op = 5 ∨ op = 6 ∨ op = 7 ∨ op = 8 ∨ op = 9 ∨ op = 10 ∨ op = 11 := by omega
  rcases hops with rfl | rfl | rfl | rfl | rfl | rfl | rfl | rfl | rfl | rfl | rfl | rfl
  · go_wp2_with fail
    ( refine (set_walk c b a _ _ (H2.at 1 rfl) ha (by first | exact bits_u32 _ _ _ | exact HNB.out | exact HX.out)).mono ?_ ; rintro e w9 ⟨rfl, hh9, hk9⟩ ; go_wp2_with fail ; go_ret ; exact do_some HN.out HM.out (by simp [Cpu.op]) rfl hh9 (K2.out.trans (Ke.ofAside hk9)))
  · have HX : Hid (0 ≤ W.shl m (n % 32).toNat ∧ W.shl m (n % 32).toNat < 4294967296) := by unfold Hid W.shl; omega
    go_wp2_with fail
    refine (word_left m n _ HNB.out).mono ?_
    rintro e w' ⟨rfl, rfl⟩
    go_wp2_with fail
    ( refine (set_walk c b a _ _ (H2.at 1 rfl) ha (by first | exact bits_u32 _ _ _ | exact HNB.out | exact HX.out)).mono ?_ ; rintro e w9 ⟨rfl, hh9, hk9⟩ ; go_wp2_with fail ; go_ret ; exact do_some HN.out HM.out (by simp [Cpu.op]) rfl hh9 (K2.out.trans (Ke.ofAside hk9)))
  · have HX : Hid (0 ≤ W.sar m (n % 32).toNat ∧ W.sar m (n % 32).toNat < 4294967296) := ⟨W.wd_lo _, W.wd_hi _⟩
    go_wp2_with fail
    refine (word_right m n _ HMB.out HNB.out).mono ?_
    rintro e w' ⟨rfl, rfl⟩
    go_wp2_with fail
    ( refine (set_walk c b a _ _ (H2.at 1 rfl) ha (by first | exact bits_u32 _ _ _ | exact HNB.out | exact HX.out)).mono ?_ ; rintro e w9 ⟨rfl, hh9, hk9⟩ ; go_wp2_with fail ; go_ret ; exact do_some HN.out HM.out (by simp [Cpu.op]) rfl hh9 (K2.out.trans (Ke.ofAside hk9)))
  · have HX : Hid (0 ≤ W.turn m (n % 32).toNat ∧ W.turn m (n % 32).toNat < 4294967296) := W.turn_bd HMB.out.1 HMB.out.2 _ (by omega)
    go_wp2_with fail
    refine (word_turn m n _ HMB.out HNB.out).mono ?_
    rintro e w' ⟨rfl, rfl⟩
    go_wp2_with fail
    ( refine (set_walk c b a _ _ (H2.at 1 rfl) ha (by first | exact bits_u32 _ _ _ | exact HNB.out | exact HX.out)).mono ?_ ; rintro e w9 ⟨rfl, hh9, hk9⟩ ; go_wp2_with fail ; go_ret ; exact do_some HN.out HM.out (by simp [Cpu.op]) rfl hh9 (K2.out.trans (Ke.ofAside hk9)))
  · go_wp2_with fail
    ( refine (set_walk c b a _ _ (H2.at 1 rfl) ha (by first | exact bits_u32 _ _ _ | exact HNB.out | exact HX.out)).mono ?_ ; rintro e w9 ⟨rfl, hh9, hk9⟩ ; go_wp2_with fail ; go_ret ; exact do_some HN.out HM.out (by simp [Cpu.op]) rfl hh9 (K2.out.trans (Ke.ofAside hk9)))
  · go_wp2_with fail
    ( refine (set_walk c b a _ _ (H2.at 1 rfl) ha (by first | exact bits_u32 _ _ _ | exact HNB.out | exact HX.out)).mono ?_ ; rintro e w9 ⟨rfl, hh9, hk9⟩ ; go_wp2_with fail ; go_ret ; exact do_some HN.out HM.out (by simp [Cpu.op]) rfl hh9 (K2.out.trans (Ke.ofAside hk9)))
  · go_wp2_with fail
    ( refine (set_walk c b a _ _ (H2.at 1 rfl) ha (by first | exact bits_u32 _ _ _ | exact HNB.out | exact HX.out)).mono ?_ ; rintro e w9 ⟨rfl, hh9, hk9⟩ ; go_wp2_with fail ; go_ret ; exact do_some HN.out HM.out (by simp [Cpu.op]) rfl hh9 (K2.out.trans (Ke.ofAside hk9)))
  · go_wp2_with fail
    ( refine (set_walk c b a _ _ (H2.at 1 rfl) ha (by first | exact bits_u32 _ _ _ | exact HNB.out | exact HX.out)).mono ?_ ; rintro e w9 ⟨rfl, hh9, hk9⟩ ; go_wp2_with fail ; go_ret ; exact do_some HN.out HM.out (by simp [Cpu.op]) rfl hh9 (K2.out.trans (Ke.ofAside hk9)))
  · cases u
    · have HX : Hid (0 ≤ W.wd (m + n + bn false 1) ∧ W.wd (m + n + bn false 1) < 4294967296) := ⟨W.wd_lo _, W.wd_hi _⟩
      ( go_wp2_with fail ; refine (word_add m n false _ HMB.out HNB.out (bn false 1) rfl).mono ?_ ; rintro e w' ⟨rfl, rfl⟩ ; go_wp2_with (first | (refine store1_sep rfl 4 _ _ rfl H3 1 rfl rfl rfl rfl (by kernel_rfl) rfl ?_; intro w4 H4 k4 s4; have hc4 : w4.cell? ⟨w.heap.size, 3, none⟩ = some (.int .i64 a) := (H4.at 0 rfl).cell 3) | (refine store1_sep rfl 4 _ _ rfl H2 1 rfl rfl rfl rfl (by kernel_rfl) rfl ?_; intro w3 H3 k3 s3)))
      ( refine (set_walk ({ c with c := decide (4294967296 ≤ m + n + bn false 1), v := W.out (W.sg m + W.sg n + bn false 1) } : Cpu) b a _ _ (H4.at 1 rfl) ha (by first | exact bits_u32 _ _ _ | exact HNB.out | exact HX.out)).mono ?_ ; rintro e w9 ⟨rfl, hh9, hk9⟩ ; go_wp2_with fail ; go_ret ; exact do_some HN.out HM.out (by simp [Cpu.op]) rfl hh9 (((K2.out.trans k3).trans k4).trans (Ke.ofAside hk9)))
    · have HX : Hid (0 ≤ W.wd (m + n + bn c.c 1) ∧ W.wd (m + n + bn c.c 1) < 4294967296) := ⟨W.wd_lo _, W.wd_hi _⟩
      ( go_wp2_with fail ; refine (word_add m n c.c _ HMB.out HNB.out (bn c.c 1) rfl).mono ?_ ; rintro e w' ⟨rfl, rfl⟩ ; go_wp2_with (first | (refine store1_sep rfl 4 _ _ rfl H3 1 rfl rfl rfl rfl (by kernel_rfl) rfl ?_; intro w4 H4 k4 s4; have hc4 : w4.cell? ⟨w.heap.size, 3, none⟩ = some (.int .i64 a) := (H4.at 0 rfl).cell 3) | (refine store1_sep rfl 4 _ _ rfl H2 1 rfl rfl rfl rfl (by kernel_rfl) rfl ?_; intro w3 H3 k3 s3)))
      ( refine (set_walk ({ c with c := decide (4294967296 ≤ m + n + bn c.c 1), v := W.out (W.sg m + W.sg n + bn c.c 1) } : Cpu) b a _ _ (H4.at 1 rfl) ha (by first | exact bits_u32 _ _ _ | exact HNB.out | exact HX.out)).mono ?_ ; rintro e w9 ⟨rfl, hh9, hk9⟩ ; go_wp2_with fail ; go_ret ; exact do_some HN.out HM.out (by simp [Cpu.op]) rfl hh9 (((K2.out.trans k3).trans k4).trans (Ke.ofAside hk9)))
  · cases u
    · have HX : Hid (0 ≤ W.wd (m - n - bn false 1) ∧ W.wd (m - n - bn false 1) < 4294967296) := ⟨W.wd_lo _, W.wd_hi _⟩
      ( go_wp2_with fail ; refine (word_sub m n false _ HMB.out HNB.out (bn false 1) rfl).mono ?_ ; rintro e w' ⟨rfl, rfl⟩ ; go_wp2_with (first | (refine store1_sep rfl 4 _ _ rfl H3 1 rfl rfl rfl rfl (by kernel_rfl) rfl ?_; intro w4 H4 k4 s4; have hc4 : w4.cell? ⟨w.heap.size, 3, none⟩ = some (.int .i64 a) := (H4.at 0 rfl).cell 3) | (refine store1_sep rfl 4 _ _ rfl H2 1 rfl rfl rfl rfl (by kernel_rfl) rfl ?_; intro w3 H3 k3 s3)))
      ( refine (set_walk ({ c with c := decide (m - n - bn false 1 < 0), v := W.out (W.sg m - W.sg n - bn false 1) } : Cpu) b a _ _ (H4.at 1 rfl) ha (by first | exact bits_u32 _ _ _ | exact HNB.out | exact HX.out)).mono ?_ ; rintro e w9 ⟨rfl, hh9, hk9⟩ ; go_wp2_with fail ; go_ret ; exact do_some HN.out HM.out (by simp [Cpu.op]) rfl hh9 (((K2.out.trans k3).trans k4).trans (Ke.ofAside hk9)))
    · have HX : Hid (0 ≤ W.wd (m - n - bn c.c 1) ∧ W.wd (m - n - bn c.c 1) < 4294967296) := ⟨W.wd_lo _, W.wd_hi _⟩
      ( go_wp2_with fail ; refine (word_sub m n c.c _ HMB.out HNB.out (bn c.c 1) rfl).mono ?_ ; rintro e w' ⟨rfl, rfl⟩ ; go_wp2_with (first | (refine store1_sep rfl 4 _ _ rfl H3 1 rfl rfl rfl rfl (by kernel_rfl) rfl ?_; intro w4 H4 k4 s4; have hc4 : w4.cell? ⟨w.heap.size, 3, none⟩ = some (.int .i64 a) := (H4.at 0 rfl).cell 3) | (refine store1_sep rfl 4 _ _ rfl H2 1 rfl rfl rfl rfl (by kernel_rfl) rfl ?_; intro w3 H3 k3 s3)))
      ( refine (set_walk ({ c with c := decide (m - n - bn c.c 1 < 0), v := W.out (W.sg m - W.sg n - bn c.c 1) } : Cpu) b a _ _ (H4.at 1 rfl) ha (by first | exact bits_u32 _ _ _ | exact HNB.out | exact HX.out)).mono ?_ ; rintro e w9 ⟨rfl, hh9, hk9⟩ ; go_wp2_with fail ; go_ret ; exact do_some HN.out HM.out (by simp [Cpu.op]) rfl hh9 (((K2.out.trans k3).trans k4).trans (Ke.ofAside hk9)))
  · have HX : Hid (0 ≤ W.mulLo (!u) m n ∧ W.mulLo (!u) m n < 4294967296) := mul_u32 _ _ _
    go_wp2_with fail
    refine (word_mul m n (!u) _ HMB.out HNB.out).mono ?_
    rintro e w' ⟨rfl, rfl⟩
    go_wp2_with (refine store1_sep rfl 22 _ _ rfl H2 1 rfl rfl rfl rfl (by kernel_rfl) rfl ?_; intro w3 H3 k3 s3; have hc3 : w3.cell? ⟨w.heap.size, 3, none⟩ = some (.int .i64 a) := (H3.at 0 rfl).cell 3)
    ( refine (set_walk ({ c with h := W.mulHi (!u) m n } : Cpu) b a _ _ (H3.at 1 rfl) ha (by first | exact bits_u32 _ _ _ | exact HNB.out | exact HX.out)).mono ?_ ; rintro e w9 ⟨rfl, hh9, hk9⟩ ; go_wp2_with fail ; go_ret ; exact do_some HN.out HM.out (by simp [Cpu.op]) rfl hh9 ((K2.out.trans k3).trans (Ke.ofAside hk9)))
  · by_cases hn : 0 < n ∧ n < 2147483648
    · have HX : Hid (0 ≤ W.quo m n ∧ W.quo m n < 4294967296) := ⟨W.wd_lo _, W.wd_hi _⟩
      have HQ := Lib.hid hn
      clear hn
      go_wp2_with fail
      refine (word_div m n _ HMB.out HQ.out).mono ?_
      rintro e w3 ⟨rfl, kk, hw3⟩
      have hb3 : Below w2.heap.size w2 w3 := by rw [hw3]; exact below_drewN (Below.refl _ _) kk
      clear hw3
      have H3 := H2.bel hb3
      have K3 := Lib.hid (K2.out.trans (Ke.below _ hb3))
      clear hb3
      have hc3 : w3.cell? ⟨w.heap.size, 3, none⟩ = some (.int .i64 a) := (H3.at 0 rfl).cell 3
      go_wp2_with (refine store1_sep rfl 22 _ _ rfl H3 1 rfl rfl rfl rfl (by kernel_rfl) rfl ?_; intro w4 H4 k4 s4; have hc4 : w4.cell? ⟨w.heap.size, 3, none⟩ = some (.int .i64 a) := (H4.at 0 rfl).cell 3)
      refine (set_walk ({ c with h := W.rem m n } : Cpu) b a _ _ (H4.at 1 rfl) ha HX.out).mono ?_
      rintro e w9 ⟨rfl, hh9, hk9⟩
      go_wp2_with fail
      go_ret
      exact do_some HN.out HM.out (by simp [Cpu.op, HQ.out]) rfl hh9 ((K3.out.trans k4).trans (Ke.ofAside hk9))
    · have HQ := Lib.hid hn
      clear hn
      have hs : W.sg n ≤ 0 := by have := HQ.out; have := HNB.out; unfold W.sg; split <;> omega
      go_wp2_with fail
      refine (word_div_no m n _ HNB.out hs).mono ?_
      rintro e w' ⟨rfl, rfl⟩
      go_wp2_with fail
      go_ret
      exact do_none HN.out HM.out (by simp [Cpu.op, HQ.out]) rfl (H2.at 1 rfl) K2.out

end Go.Proofs.Ytkeaogphaifnmaa
