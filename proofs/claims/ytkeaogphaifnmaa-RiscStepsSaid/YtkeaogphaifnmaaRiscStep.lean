/- Contract of risc.Step. -/
import Derived.Test.YtkeaogphaifnmaaRiscDo
import Derived.Test.YtkeaogphaifnmaaSepMore
namespace Go.Proofs.Ytkeaogphaifnmaa
set_option linter.unusedVariables false
set_option linter.unusedSimpArgs false
open Go.RowKit

structure Ev where
  kind : Int
  place : Int
  byte : Bool
  reg : Int
  value : Int
  n : Int
  deriving DecidableEq
def Ev.cells (e : Ev) : Array Value := #[.int .i64 e.kind, .int .u32 e.place, .bool e.byte, .int .i64 e.reg, .int .u32 e.value, .int .i64 e.n]
abbrev Ev.val (e : Ev) : Value := .agg #[.int .i64 e.kind, .int .u32 e.place, .bool e.byte, .int .i64 e.reg, .int .u32 e.value, .int .i64 e.n]
def Ev.none : Ev := ⟨0, 0, false, 0, 0, 0⟩
def Ev.odd : Ev := ⟨5, 0, false, 0, 0, 0⟩
def Cpu.zero : Cpu := ⟨fun _ => 0, 0, false, false, false, false, 0⟩

def Cpu.jump (c : Cpu) (v : Bool) (to : Int) : Cpu := { c with r := if v then (fun j => if j = 15 then 4 * c.pc % 4294967296 else c.r j) else c.r, pc := to }
def outOf (c : Cpu) : Option Cpu → Cpu × Ev
  | some d => (d, Ev.none)
  | none => (c, Ev.odd)
def Cpu.exec (c : Cpu) (i : Ins) : Cpu × Ev :=
  if i.form ≤ 1 then outOf c (c.op i (c.r i.b.toNat) (c.num i))
  else if i.form = 2 then (c, ⟨1, (c.r i.b.toNat + i.off) % 4294967296, i.v, i.a, 0, 0⟩)
  else if i.form = 3 then (c, ⟨2, (c.r i.b.toNat + i.off) % 4294967296, i.v, i.b, if i.v then c.r i.a.toNat % 256 else c.r i.a.toNat, 0⟩)
  else if c.cond i.cond = false then (c, Ev.none)
  else if i.form = 6 then (c, ⟨if 16 ≤ i.n then 4 else 3, 0, false, 0, 0, i.n⟩)
  else (c.jump i.v (if i.form = 5 then c.r i.c.toNat / 4 else (c.pc + i.off) % 4294967296), Ev.none)
def Cpu.next (c : Cpu) : Cpu := { c with pc := (c.pc + 1) % 4294967296 }
def Cpu.step (c : Cpu) (x : Int) : Cpu × Ev := if good (flds x) then c.next.exec (flds x) else (c.next, Ev.odd)

def StepIs (c : Cpu) (x : Int) (w : World) (e : Ending) (w' : World) : Prop := e = .returned (.tuple #[(c.step x).1.val, (c.step x).2.val]) ∧ Below w.heap.size w w'
theorem step_is {c : Cpu} {x : Int} {w w' : World} {e : Ending} {d : Cpu} {v : Ev} (h : c.step x = (d, v)) (he : e = .returned (.tuple #[d.val, v.val])) (hb : Below w.heap.size w w') : StepIs c x w e w' := by
  unfold StepIs; rw [h]; exact ⟨he, hb⟩

theorem flds_bd {x : Int} (hx : 0 ≤ x ∧ x < 4294967296) : (0 ≤ (flds x).form ∧ (flds x).form ≤ 6) ∧ (0 ≤ (flds x).a ∧ (flds x).a < 16) ∧ (0 ≤ (flds x).b ∧ (flds x).b < 16) ∧ 0 ≤ (flds x).c ∧ ((flds x).form = 1 → (flds x).c = 0) ∧ 0 ≤ (flds x).op ∧ (0 ≤ (flds x).cond ∧ (flds x).cond < 16) ∧ 0 ≤ (flds x).n ∧ (-2147483648 ≤ (flds x).off ∧ (flds x).off < 2147483648) := by
  have h1 := W.sg_bd (a := W.ext x 20) (W.wd_lo _) (W.wd_hi _)
  have h2 := W.sg_bd (a := W.ext x 24) (W.wd_lo _) (W.wd_hi _)
  unfold flds
  (repeat' split) <;> simp only [] <;> refine ⟨⟨?_, ?_⟩, ⟨?_, ?_⟩, ⟨?_, ?_⟩, ?_, ?_, ?_, ⟨?_, ?_⟩, ?_, ⟨?_, ?_⟩⟩ <;> (try intro _) <;> omega

theorem cell_of {w : World} {l : List Row} (H : Sep w l) (k : Nat) {g : Nat} {cs : Array Value} {t : TypeId} (e : l[k]? = some (g, cs, t)) (j : Nat) {v : Value} (hv : cs[j]? = some v) : w.cell? ⟨g, j, none⟩ = some v := ((H.at k e).cell j).trans hv
theorem ke2 {w : World} {a b : World} {g : Nat} (h : Ke Non w a) (k : Ke (· = g) a b) (hg : w.heap.size ≤ g) : Ke Non w b := h.trans' k (fun i hi hh => by have : i = g := hh; omega)

set_option maxRecDepth 100000 in
set_option maxHeartbeats 8000000 in
theorem step_bad (c : Cpu) (x : Int) (w : World) (hx : 0 ≤ x ∧ x < 4294967296) (hg : good (flds x) = false) : Calls Try.prog 10 #[c.val, .int .u32 x] w (StepIs c x w) := by
  obtain ⟨i, hi⟩ : ∃ i, i = flds x := ⟨_, rfl⟩
  have HST : Hid (c.step x = (c.next, Ev.odd)) := by unfold Hid Cpu.step; rw [hg]; rfl
  rw [← hi] at hg
  have HG := Lib.hid hg
  have HI := Lib.hid hi
  clear hi hg
  obtain ⟨form, u, v, a, bb, cc, op, im, off, cond, nn⟩ := i
  ( have H0 := (Sep.nil w).alloc3 c.cells Cpu.zero.cells Ev.none.cells 25 25 28 ; have K0 := Lib.hid (Ke.below Non (bel3 w (.cells c.cells 25) (.cells Cpu.zero.cells 25) (.cells Ev.none.cells 28))) ; have hpc : c.cells[21]? = some (.int .u32 c.pc) := rfl ; go_enter Try.func10, Try.ntmps10 ; go_wp2_with (refine store1_sep rfl 22 (.tmp 14) (.tmp 13) rfl H0 2 rfl rfl rfl rfl (by kernel_rfl) ?_ ?_; rfl; intro w1 H1' k1 s1) ; have K1 := Lib.hid (ke2 K0.out k1 (Nat.le_refl _)) ; have H1 : Sep w1 [(w.heap.size + 2, Ev.none.cells, 28), (w.heap.size + 1, Cpu.zero.cells, 25), (w.heap.size, c.next.cells, 25)] := H1' ; clear H0 H1' K0 k1 hpc ; refine (of_walk x _ hx _ HI.out).mono ?_ ; rintro e w2 ⟨he, hb2⟩ ; rw [HG.out] at he ; subst he ; have H2 := H1.bel hb2 ; have K2 := Lib.hid (K1.out.trans (Ke.below Non hb2)) ; have s2 : w.heap.size + 3 ≤ w2.heap.size := (by have := hb2.size; simp at s1; omega) ; clear hb2 H1 K1 s1)
  ( go_wp2_with (first | (refine alloc_sep rfl 35 rfl H2 (z := Ins.zero.val) (cs := Ins.zero.cells) (by kernel_rfl) rfl ?_; intro w3 H3 b3 s3) | (refine store_sep rfl 35 (.tmp 6) (.tmp 18) rfl H3 0 rfl rfl rfl (by kernel_rfl) rfl ?_ ?_; rfl; intro w4 H4 k4 s4; have K4 := Lib.hid (ke2 (K2.out.trans (Ke.below Non b3)) k4 (by omega)); have cf0 := cell_of H4 0 rfl 0 rfl; have cf1 := cell_of H4 0 rfl 2 rfl; have cf3 := cell_of H4 0 rfl 3 rfl; have cf9 := cell_of H4 0 rfl 9 rfl; (try have cr1 := cell_of H4 3 rfl _ HRA.out)) | (refine load_sep rfl 35 (.tmp 6) rfl H4 0 rfl rfl Try.underlying35 rfl (by kernel_rfl) ?_) | (refine load_sep rfl 25 (.tmp 2) rfl H4 3 rfl rfl Try.underlying25 rfl (by kernel_rfl) ?_) | (refine store_sep rfl 25 (.tmp 4) (.tmp 22) rfl H4 2 rfl rfl rfl (by kernel_rfl) rfl ?_ ?_; rfl; intro w7 H7 k7 s7) | (refine store_sep rfl 28 (.tmp 5) (.tmp 23) rfl H7 1 rfl rfl rfl (by kernel_rfl) rfl ?_ ?_; rfl; intro w8 H8 k8 s8)))
  ( refine bodyPost_ret (res_cell_cell rfl rfl (H8.at 2 rfl) Try.underlying25 rfl (by kernel_rfl) rfl (H8.at 1 rfl) Try.underlying28 rfl (by kernel_rfl)) rfl (step_is HST.out rfl ?_) ; exact (ke2 (ke2 K4.out k7 (by omega)) k8 (by omega)).non)

theorem ok_next {c : Cpu} (h : c.Ok) : c.next.Ok := ⟨h.r, h.h, by unfold Cpu.next; simp only []; omega⟩

set_option maxRecDepth 100000 in
set_option maxHeartbeats 8000000 in
theorem step_do (c : Cpu) (x : Int) (w : World) (hx : 0 ≤ x ∧ x < 4294967296) (hk : c.Ok) (hg : good (flds x) = true) (hf : (flds x).form ≤ 1) : Calls Try.prog 10 #[c.val, .int .u32 x] w (StepIs c x w) := by
  ( obtain ⟨i, hi⟩ : ∃ i, i = flds x := ⟨_, rfl⟩ ; have hbd := flds_bd hx ; rw [← hi] at hbd hg hf ; have HST : Hid (c.step x = c.next.exec i) := (by unfold Hid Cpu.step; rw [← hi, if_pos hg]) ; have HG := Lib.hid hg ; have HI := Lib.hid hi ; have hkn := ok_next hk ; clear hi hg)
  have hop : 0 ≤ i.op ∧ i.op ≤ 11 ∧ 0 ≤ i.c ∧ i.c < 16 := by
    have h := HG.out
    unfold good at h
    by_cases h0 : i.form = 0
    · rw [if_pos h0] at h; simp at h; omega
    · rw [if_neg h0, if_pos (by omega)] at h; simp at h; omega
  obtain ⟨r, hr⟩ : ∃ r, r = c.next.op i (c.next.r i.b.toNat) (c.next.num i) := ⟨_, rfl⟩
  have HR := Lib.hid hr.symm
  have HE : Hid (c.step x = outOf c.next r) := by unfold Hid; rw [HST.out]; unfold Cpu.exec; rw [if_pos hf, ← hr]
  clear hr
  obtain ⟨form, u, v, a, bb, cc, op, im, off, cond, nn⟩ := i
  have HB := Lib.hid hbd
  clear hbd
  have hf2 : form = 0 ∨ form = 1 := by have := HB.out.1.1; simp only at this hf; omega
  have HO := Lib.hid hop
  clear hop hf
  cases r with
  | none =>
    have HE2 : Hid (c.step x = (c.next, Ev.odd)) := HE.out
    rcases hf2 with rfl | rfl
    · ( ( have H0 := (Sep.nil w).alloc3 c.cells Cpu.zero.cells Ev.none.cells 25 25 28 ; have K0 := Lib.hid (Ke.below Non (bel3 w (.cells c.cells 25) (.cells Cpu.zero.cells 25) (.cells Ev.none.cells 28))) ; have hpc : c.cells[21]? = some (.int .u32 c.pc) := rfl ; go_enter Try.func10, Try.ntmps10 ; go_wp2_with (refine store1_sep rfl 22 (.tmp 14) (.tmp 13) rfl H0 2 rfl rfl rfl rfl (by kernel_rfl) ?_ ?_; rfl; intro w1 H1' k1 s1) ; have K1 := Lib.hid (ke2 K0.out k1 (Nat.le_refl _)) ; have H1 : Sep w1 [(w.heap.size + 2, Ev.none.cells, 28), (w.heap.size + 1, Cpu.zero.cells, 25), (w.heap.size, c.next.cells, 25)] := H1' ; clear H0 H1' K0 k1 hpc ; refine (of_walk x _ hx _ HI.out).mono ?_ ; rintro e w2 ⟨he, hb2⟩ ; rw [HG.out] at he ; subst he ; have H2 := H1.bel hb2 ; have K2 := Lib.hid (K1.out.trans (Ke.below Non hb2)) ; have s2 : w.heap.size + 3 ≤ w2.heap.size := (by have := hb2.size; simp at s1; omega) ; clear hb2 H1 K1 s1) ; ( go_wp2_with (first | (refine alloc_sep rfl 35 rfl H2 (z := Ins.zero.val) (cs := Ins.zero.cells) (by kernel_rfl) rfl ?_; intro w3 H3 b3 s3) | (refine store_sep rfl 35 (.tmp 6) (.tmp 18) rfl H3 0 rfl rfl rfl (by kernel_rfl) rfl ?_ ?_; rfl; intro w4 H4 k4 s4; have K4 := Lib.hid (ke2 (K2.out.trans (Ke.below Non b3)) k4 (by omega)); have cf0 := cell_of H4 0 rfl 0 rfl; have cf1 := cell_of H4 0 rfl 2 rfl; have cf3 := cell_of H4 0 rfl 3 rfl; have cf9 := cell_of H4 0 rfl 9 rfl; (try have cr1 := cell_of H4 3 rfl _ HRA.out)) | (refine load_sep rfl 35 (.tmp 6) rfl H4 0 rfl rfl Try.underlying35 rfl (by kernel_rfl) ?_) | (refine load_sep rfl 25 (.tmp 2) rfl H4 3 rfl rfl Try.underlying25 rfl (by kernel_rfl) ?_) | (refine store_sep rfl 25 (.tmp 4) (.tmp 45) rfl H4 2 rfl rfl rfl (by kernel_rfl) rfl ?_ ?_; rfl; intro w7 H7 k7 s7) | (refine store_sep rfl 28 (.tmp 5) (.tmp 46) rfl H7 1 rfl rfl rfl (by kernel_rfl) rfl ?_ ?_; rfl; intro w8 H8 k8 s8))) ; refine (do_walk c.next w.heap.size ⟨0, u, v, a, bb, cc, op, im, off, cond, nn⟩ _ (H4.at 3 rfl) HB.out.2.2.1 HO.out.2.2 HB.out.2.1 ⟨HO.out.1, HO.out.2.1⟩ hkn).mono ?_ ; rintro e w5 hd ; unfold DoIs at hd ; rw [HR.out] at hd ; obtain ⟨rfl, hh, hke⟩ := hd ; have H5 := H4.upd 3 rfl hh hke ; have K5 := Lib.hid (ke2 K4.out hke (Nat.le_refl _)) ; clear hke ; ( go_wp2_with (first | (refine load_sep rfl 25 (.tmp 2) rfl H5 3 rfl rfl Try.underlying25 rfl (by kernel_rfl) ?_) | (refine store_sep rfl 25 (.tmp 4) (.tmp 45) rfl H5 2 rfl rfl rfl (by kernel_rfl) rfl ?_ ?_; rfl; intro w7 H7 k7 s7) | (refine store_sep rfl 28 (.tmp 5) (.tmp 46) rfl H7 1 rfl rfl rfl (by kernel_rfl) rfl ?_ ?_; rfl; intro w8 H8 k8 s8))) ; ( refine bodyPost_ret (res_cell_cell rfl rfl (H8.at 2 rfl) Try.underlying25 rfl (by kernel_rfl) rfl (H8.at 1 rfl) Try.underlying28 rfl (by kernel_rfl)) rfl (step_is HE2.out rfl ?_) ; exact (ke2 (ke2 K5.out k7 (by omega)) k8 (by omega)).non))
    · ( ( have H0 := (Sep.nil w).alloc3 c.cells Cpu.zero.cells Ev.none.cells 25 25 28 ; have K0 := Lib.hid (Ke.below Non (bel3 w (.cells c.cells 25) (.cells Cpu.zero.cells 25) (.cells Ev.none.cells 28))) ; have hpc : c.cells[21]? = some (.int .u32 c.pc) := rfl ; go_enter Try.func10, Try.ntmps10 ; go_wp2_with (refine store1_sep rfl 22 (.tmp 14) (.tmp 13) rfl H0 2 rfl rfl rfl rfl (by kernel_rfl) ?_ ?_; rfl; intro w1 H1' k1 s1) ; have K1 := Lib.hid (ke2 K0.out k1 (Nat.le_refl _)) ; have H1 : Sep w1 [(w.heap.size + 2, Ev.none.cells, 28), (w.heap.size + 1, Cpu.zero.cells, 25), (w.heap.size, c.next.cells, 25)] := H1' ; clear H0 H1' K0 k1 hpc ; refine (of_walk x _ hx _ HI.out).mono ?_ ; rintro e w2 ⟨he, hb2⟩ ; rw [HG.out] at he ; subst he ; have H2 := H1.bel hb2 ; have K2 := Lib.hid (K1.out.trans (Ke.below Non hb2)) ; have s2 : w.heap.size + 3 ≤ w2.heap.size := (by have := hb2.size; simp at s1; omega) ; clear hb2 H1 K1 s1) ; ( go_wp2_with (first | (refine alloc_sep rfl 35 rfl H2 (z := Ins.zero.val) (cs := Ins.zero.cells) (by kernel_rfl) rfl ?_; intro w3 H3 b3 s3) | (refine store_sep rfl 35 (.tmp 6) (.tmp 18) rfl H3 0 rfl rfl rfl (by kernel_rfl) rfl ?_ ?_; rfl; intro w4 H4 k4 s4; have K4 := Lib.hid (ke2 (K2.out.trans (Ke.below Non b3)) k4 (by omega)); have cf0 := cell_of H4 0 rfl 0 rfl; have cf1 := cell_of H4 0 rfl 2 rfl; have cf3 := cell_of H4 0 rfl 3 rfl; have cf9 := cell_of H4 0 rfl 9 rfl; (try have cr1 := cell_of H4 3 rfl _ HRA.out)) | (refine load_sep rfl 35 (.tmp 6) rfl H4 0 rfl rfl Try.underlying35 rfl (by kernel_rfl) ?_) | (refine load_sep rfl 25 (.tmp 2) rfl H4 3 rfl rfl Try.underlying25 rfl (by kernel_rfl) ?_) | (refine store_sep rfl 25 (.tmp 4) (.tmp 45) rfl H4 2 rfl rfl rfl (by kernel_rfl) rfl ?_ ?_; rfl; intro w7 H7 k7 s7) | (refine store_sep rfl 28 (.tmp 5) (.tmp 46) rfl H7 1 rfl rfl rfl (by kernel_rfl) rfl ?_ ?_; rfl; intro w8 H8 k8 s8))) ; refine (do_walk c.next w.heap.size ⟨1, u, v, a, bb, cc, op, im, off, cond, nn⟩ _ (H4.at 3 rfl) HB.out.2.2.1 HO.out.2.2 HB.out.2.1 ⟨HO.out.1, HO.out.2.1⟩ hkn).mono ?_ ; rintro e w5 hd ; unfold DoIs at hd ; rw [HR.out] at hd ; obtain ⟨rfl, hh, hke⟩ := hd ; have H5 := H4.upd 3 rfl hh hke ; have K5 := Lib.hid (ke2 K4.out hke (Nat.le_refl _)) ; clear hke ; ( go_wp2_with (first | (refine load_sep rfl 25 (.tmp 2) rfl H5 3 rfl rfl Try.underlying25 rfl (by kernel_rfl) ?_) | (refine store_sep rfl 25 (.tmp 4) (.tmp 45) rfl H5 2 rfl rfl rfl (by kernel_rfl) rfl ?_ ?_; rfl; intro w7 H7 k7 s7) | (refine store_sep rfl 28 (.tmp 5) (.tmp 46) rfl H7 1 rfl rfl rfl (by kernel_rfl) rfl ?_ ?_; rfl; intro w8 H8 k8 s8))) ; ( refine bodyPost_ret (res_cell_cell rfl rfl (H8.at 2 rfl) Try.underlying25 rfl (by kernel_rfl) rfl (H8.at 1 rfl) Try.underlying28 rfl (by kernel_rfl)) rfl (step_is HE2.out rfl ?_) ; exact (ke2 (ke2 K5.out k7 (by omega)) k8 (by omega)).non))
  | some d =>
    have HE2 : Hid (c.step x = (d, Ev.none)) := HE.out
    rcases hf2 with rfl | rfl
    · ( ( have H0 := (Sep.nil w).alloc3 c.cells Cpu.zero.cells Ev.none.cells 25 25 28 ; have K0 := Lib.hid (Ke.below Non (bel3 w (.cells c.cells 25) (.cells Cpu.zero.cells 25) (.cells Ev.none.cells 28))) ; have hpc : c.cells[21]? = some (.int .u32 c.pc) := rfl ; go_enter Try.func10, Try.ntmps10 ; go_wp2_with (refine store1_sep rfl 22 (.tmp 14) (.tmp 13) rfl H0 2 rfl rfl rfl rfl (by kernel_rfl) ?_ ?_; rfl; intro w1 H1' k1 s1) ; have K1 := Lib.hid (ke2 K0.out k1 (Nat.le_refl _)) ; have H1 : Sep w1 [(w.heap.size + 2, Ev.none.cells, 28), (w.heap.size + 1, Cpu.zero.cells, 25), (w.heap.size, c.next.cells, 25)] := H1' ; clear H0 H1' K0 k1 hpc ; refine (of_walk x _ hx _ HI.out).mono ?_ ; rintro e w2 ⟨he, hb2⟩ ; rw [HG.out] at he ; subst he ; have H2 := H1.bel hb2 ; have K2 := Lib.hid (K1.out.trans (Ke.below Non hb2)) ; have s2 : w.heap.size + 3 ≤ w2.heap.size := (by have := hb2.size; simp at s1; omega) ; clear hb2 H1 K1 s1) ; ( go_wp2_with (first | (refine alloc_sep rfl 35 rfl H2 (z := Ins.zero.val) (cs := Ins.zero.cells) (by kernel_rfl) rfl ?_; intro w3 H3 b3 s3) | (refine store_sep rfl 35 (.tmp 6) (.tmp 18) rfl H3 0 rfl rfl rfl (by kernel_rfl) rfl ?_ ?_; rfl; intro w4 H4 k4 s4; have K4 := Lib.hid (ke2 (K2.out.trans (Ke.below Non b3)) k4 (by omega)); have cf0 := cell_of H4 0 rfl 0 rfl; have cf1 := cell_of H4 0 rfl 2 rfl; have cf3 := cell_of H4 0 rfl 3 rfl; have cf9 := cell_of H4 0 rfl 9 rfl; (try have cr1 := cell_of H4 3 rfl _ HRA.out)) | (refine load_sep rfl 35 (.tmp 6) rfl H4 0 rfl rfl Try.underlying35 rfl (by kernel_rfl) ?_) | (refine load_sep rfl 25 (.tmp 2) rfl H4 3 rfl rfl Try.underlying25 rfl (by kernel_rfl) ?_) | (refine store_sep rfl 25 (.tmp 4) (.tmp 45) rfl H4 2 rfl rfl rfl (by kernel_rfl) rfl ?_ ?_; rfl; intro w7 H7 k7 s7) | (refine store_sep rfl 28 (.tmp 5) (.tmp 46) rfl H7 1 rfl rfl rfl (by kernel_rfl) rfl ?_ ?_; rfl; intro w8 H8 k8 s8))) ; refine (do_walk c.next w.heap.size ⟨0, u, v, a, bb, cc, op, im, off, cond, nn⟩ _ (H4.at 3 rfl) HB.out.2.2.1 HO.out.2.2 HB.out.2.1 ⟨HO.out.1, HO.out.2.1⟩ hkn).mono ?_ ; rintro e w5 hd ; unfold DoIs at hd ; rw [HR.out] at hd ; obtain ⟨rfl, hh, hke⟩ := hd ; have H5 := H4.upd 3 rfl hh hke ; have K5 := Lib.hid (ke2 K4.out hke (Nat.le_refl _)) ; clear hke ; ( go_wp2_with (first | (refine load_sep rfl 25 (.tmp 2) rfl H5 3 rfl rfl Try.underlying25 rfl (by kernel_rfl) ?_) | (refine store_sep rfl 25 (.tmp 4) (.tmp 123) rfl H5 2 rfl rfl rfl (by kernel_rfl) rfl ?_ ?_; rfl; intro w7 H7 k7 s7) | (refine store_sep rfl 28 (.tmp 5) (.tmp 124) rfl H7 1 rfl rfl rfl (by kernel_rfl) rfl ?_ ?_; rfl; intro w8 H8 k8 s8))) ; ( refine bodyPost_ret (res_cell_cell rfl rfl (H8.at 2 rfl) Try.underlying25 rfl (by kernel_rfl) rfl (H8.at 1 rfl) Try.underlying28 rfl (by kernel_rfl)) rfl (step_is HE2.out rfl ?_) ; exact (ke2 (ke2 K5.out k7 (by omega)) k8 (by omega)).non))
    · ( ( have H0 := (Sep.nil w).alloc3 c.cells Cpu.zero.cells Ev.none.cells 25 25 28 ; have K0 := Lib.hid (Ke.below Non (bel3 w (.cells c.cells 25) (.cells Cpu.zero.cells 25) (.cells Ev.none.cells 28))) ; have hpc : c.cells[21]? = some (.int .u32 c.pc) := rfl ; go_enter Try.func10, Try.ntmps10 ; go_wp2_with (refine store1_sep rfl 22 (.tmp 14) (.tmp 13) rfl H0 2 rfl rfl rfl rfl (by kernel_rfl) ?_ ?_; rfl; intro w1 H1' k1 s1) ; have K1 := Lib.hid (ke2 K0.out k1 (Nat.le_refl _)) ; have H1 : Sep w1 [(w.heap.size + 2, Ev.none.cells, 28), (w.heap.size + 1, Cpu.zero.cells, 25), (w.heap.size, c.next.cells, 25)] := H1' ; clear H0 H1' K0 k1 hpc ; refine (of_walk x _ hx _ HI.out).mono ?_ ; rintro e w2 ⟨he, hb2⟩ ; rw [HG.out] at he ; subst he ; have H2 := H1.bel hb2 ; have K2 := Lib.hid (K1.out.trans (Ke.below Non hb2)) ; have s2 : w.heap.size + 3 ≤ w2.heap.size := (by have := hb2.size; simp at s1; omega) ; clear hb2 H1 K1 s1) ; ( go_wp2_with (first | (refine alloc_sep rfl 35 rfl H2 (z := Ins.zero.val) (cs := Ins.zero.cells) (by kernel_rfl) rfl ?_; intro w3 H3 b3 s3) | (refine store_sep rfl 35 (.tmp 6) (.tmp 18) rfl H3 0 rfl rfl rfl (by kernel_rfl) rfl ?_ ?_; rfl; intro w4 H4 k4 s4; have K4 := Lib.hid (ke2 (K2.out.trans (Ke.below Non b3)) k4 (by omega)); have cf0 := cell_of H4 0 rfl 0 rfl; have cf1 := cell_of H4 0 rfl 2 rfl; have cf3 := cell_of H4 0 rfl 3 rfl; have cf9 := cell_of H4 0 rfl 9 rfl; (try have cr1 := cell_of H4 3 rfl _ HRA.out)) | (refine load_sep rfl 35 (.tmp 6) rfl H4 0 rfl rfl Try.underlying35 rfl (by kernel_rfl) ?_) | (refine load_sep rfl 25 (.tmp 2) rfl H4 3 rfl rfl Try.underlying25 rfl (by kernel_rfl) ?_) | (refine store_sep rfl 25 (.tmp 4) (.tmp 45) rfl H4 2 rfl rfl rfl (by kernel_rfl) rfl ?_ ?_; rfl; intro w7 H7 k7 s7) | (refine store_sep rfl 28 (.tmp 5) (.tmp 46) rfl H7 1 rfl rfl rfl (by kernel_rfl) rfl ?_ ?_; rfl; intro w8 H8 k8 s8))) ; refine (do_walk c.next w.heap.size ⟨1, u, v, a, bb, cc, op, im, off, cond, nn⟩ _ (H4.at 3 rfl) HB.out.2.2.1 HO.out.2.2 HB.out.2.1 ⟨HO.out.1, HO.out.2.1⟩ hkn).mono ?_ ; rintro e w5 hd ; unfold DoIs at hd ; rw [HR.out] at hd ; obtain ⟨rfl, hh, hke⟩ := hd ; have H5 := H4.upd 3 rfl hh hke ; have K5 := Lib.hid (ke2 K4.out hke (Nat.le_refl _)) ; clear hke ; ( go_wp2_with (first | (refine load_sep rfl 25 (.tmp 2) rfl H5 3 rfl rfl Try.underlying25 rfl (by kernel_rfl) ?_) | (refine store_sep rfl 25 (.tmp 4) (.tmp 123) rfl H5 2 rfl rfl rfl (by kernel_rfl) rfl ?_ ?_; rfl; intro w7 H7 k7 s7) | (refine store_sep rfl 28 (.tmp 5) (.tmp 124) rfl H7 1 rfl rfl rfl (by kernel_rfl) rfl ?_ ?_; rfl; intro w8 H8 k8 s8))) ; ( refine bodyPost_ret (res_cell_cell rfl rfl (H8.at 2 rfl) Try.underlying25 rfl (by kernel_rfl) rfl (H8.at 1 rfl) Try.underlying28 rfl (by kernel_rfl)) rfl (step_is HE2.out rfl ?_) ; exact (ke2 (ke2 K5.out k7 (by omega)) k8 (by omega)).non))

end Go.Proofs.Ytkeaogphaifnmaa
