/- A table of types: what is added. -/
import Derived.Test.YtbppoegdmmflmaaTabMore
import Derived.Test.YtbppoegdmmflmaaSepApp
namespace Go.Proofs.Ytbppoegdmmflmaa
set_option linter.unusedVariables false
set_option linter.unusedSimpArgs false
open Go.RowKit

/-- a slice type's row of the table of types. -/
theorem et_type : ET Try.prog 39 36 Ty.none.val 7 72 := ET.of Try.underlying39 (by kernel_rfl) (by decide) (by decide)

/-- what is old is kept, with the table's two blocks new or its own. -/
def addE (L : List Ty) : Int := if L.length ≤ 200 then 0 else 64
def addN (L : List Ty) : Int := if L.length ≤ 200 then L.length else 0
def addL (L : List Ty) (x : Ty) : List Ty := if L.length ≤ 200 then L ++ [x] else L
def AddIs (B : Nat) (g : Nat) (L : List Ty) (nf : Int) (R : List Row) (x : Ty) (w : World) (e : Ending) (w' : World) : Prop :=
  e = .returned (.tuple #[.int .i64 (addN L), .int .i64 (addE L)]) ∧ Tab B w' g (addL L x) nf R ∧ Below B w w'

theorem Below.ofKe {G : Nat → Prop} {B : Nat} {w w' : World} (h : Ke G w w') (hG : ∀ i, G i → B ≤ i) (hB : B ≤ w.heap.size) : Below B w w' :=
  ⟨h.os, h.tape, h.output, h.size, fun k hk => h.block k (Nat.lt_of_lt_of_le hk hB) (fun hh => Nat.lt_irrefl _ (Nat.lt_of_lt_of_le hk (hG k hh)))⟩

theorem Ty.val_cells (x : Ty) : x.val.cells = x.cells.toArray := rfl

theorem Sep.sub {w : World} {l l' : List Row} (h : Sep w l) (s : l'.Sublist l) : Sep w l' := ⟨fun e he => h.row e (s.mem he), h.nd.sublist s⟩

set_option maxHeartbeats 4000000 in
theorem add_full {B : Nat} {w : World} {g : Nat} {L : List Ty} {nf : Int} {R : List Row} (T : Tab B w g L nf R) (x : Ty) (hB : B ≤ w.heap.size) (hL : 200 < L.length) :
    Calls Try.prog 31 #[.pointer (some ⟨g, 0, none⟩), x.val] w (AddIs B g L nf R x w) := by
  have HE := Lib.hid (show addN L = 0 ∧ addE L = 64 ∧ addL L x = L from ⟨if_neg (by omega), if_neg (by omega), if_neg (by omega)⟩)
  have HT := Lib.hid T
  obtain ⟨hg, h, cap, cs, hh, S, r⟩ := T
  have HS := Lib.hid S
  have i1 : (L.length : Int) ≤ 9223372036854775807 := by have := r.le; have := r.cap; unfold maxLen at this; omega
  have i2 : (200 : Int) < L.length := by omega
  have i0 : ((L.length : Int) == 0) = false := by simp; intro h; rw [h] at hL; simp at hL
  clear S r hL
  go_enter Try.func31, Try.ntmps31
  go_wp2_with (refine box_sep rfl 36 (.tmp 1) rfl HS.out rfl (Ty.val_cells x) ?_; intro w1 S1 b1 s1; have c0 : w1.cell? ⟨g, 0, none⟩ = some (.slice (some ⟨h, 0, none⟩) L.length cap) := ((S1.at 1 rfl).cell 0).trans rfl; clear S1 s1)
  go_ret2
  refine ⟨by rw [HE.out.1, HE.out.2.1]; rfl, by rw [HE.out.2.2]; exact HT.out.bel b1, b1.mono hB⟩

set_option maxHeartbeats 4000000 in
theorem add_more {B : Nat} {w : World} {g : Nat} {L : List Ty} {nf : Int} {R : List Row} (T : Tab B w g L nf R) (x : Ty) (hB : B ≤ w.heap.size) (h1 : 1 ≤ L.length) (hL : L.length ≤ 200) :
    Calls Try.prog 31 #[.pointer (some ⟨g, 0, none⟩), x.val] w (AddIs B g L nf R x w) := by
  have HE := Lib.hid (show addN L = L.length ∧ addE L = 0 ∧ addL L x = L ++ [x] from ⟨if_pos hL, if_pos hL, if_pos hL⟩)
  obtain ⟨hg, h, cap, cs, hh, S, r⟩ := T
  have HS := Lib.hid S
  have HR := Lib.hid r
  have i1 : (L.length : Int) ≤ 200 := by omega
  have i2 : (1 : Int) ≤ L.length := by omega
  have i0 : ((L.length : Int) == 0) = false := by simp; intro h; rw [h] at h1; simp at h1
  have hgh : g ≠ h := S.ne 0 1 (by decide) rfl rfl
  clear S r h1 hL
  obtain ⟨form, base, len, size, fa, fn, fc, mod, ref⟩ := x
  have hV := Lib.hid (show (Ty.mk form base len size fa fn fc mod ref).val.cells = #[.int .i64 form, .int .i64 base, .int .i64 len, .int .i64 size, .slice fa fn fc, .int .i64 mod, .int .i64 ref] from rfl)
  go_enter Try.func31, Try.ntmps31
  go_wp2_with (refine box_sep rfl 36 (.tmp 1) rfl HS.out rfl hV.out ?_; intro w1 S1 b1 s1; have c0 : w1.cell? ⟨g, 0, none⟩ = some (.slice (some ⟨h, 0, none⟩) L.length cap) := ((S1.at 1 rfl).cell 0).trans rfl; clear s1)
  have S2 := S1.drew
  have HS2 := Lib.hid S2
  have hbh : w.heap.size ≠ h := S1.ne 0 2 (by decide) rfl rfl
  refine wp_region_tailK (G := (· = h)) [([0, 1, 2, 3, 4, 5], 6), ([], 7)] [8, 9] 10 [9, 8, 7, 6, 5, 4, 3, 2, 1, 0] (by kernel_rfl) (by kernel_rfl) (fun _ _ d _ _ h => by cases d <;> exact h) ?_
  have l1 := (S2.at 1 rfl).laterCell (G := (· = h)) hgh 0 (v := .slice (some ⟨h, 0, none⟩) L.length cap) rfl
  have l2 := fun x => ((S2.at 0 rfl).later (G := (· = h)) hbh x).loads (P := Try.prog) Try.underlying36 rfl (by kernel_rfl)
  refine mixT_stepK ?_
  simp only [pickOps, nth]
  (repeat (go_big_quiet_step (fail)))
  (go_big_quiet_want; refine quiet_row 36 (.tmp 3) rfl rfl l2 ?_; go_big_quiet_on)
  simp only [Act.put, List.setIfInBounds_toArray, List.set_cons_succ, List.set_cons_zero]
  refine wpQuiet_nil ?_
  clear l1 l2
  go_wp2_with fail
  have k2 := Ke.below (· = h) (bel1 w1.drew (.cells #[.int .i64 form, .int .i64 base, .int .i64 len, .int .i64 size, .slice fa fn fc, .int .i64 mod, .int .i64 ref] 36))
  refine ⟨k2, mixT_stepK ?_⟩
  simp only [pickOps, nth]
  refine wpQuiet_nil ?_
  have S3 := (S2.alloc #[.int .i64 form, .int .i64 base, .int .i64 len, .int .i64 size, .slice fa fn fc, .int .i64 mod, .int .i64 ref] 36).perm (List.perm_middle (l₁ := [_, _, _]))
  have hn0 := (S3.at 1 rfl)
  refine append_sep rfl (.tmp 28) (.tmp 30) et_type rfl S3 HR.out.size HR.out.le HR.out.cap HR.out.row rfl rfl (fun j u hj => ?_) (news := (Ty.mk form base len size fa fn fc mod ref).cells) rfl ?_ ?_ ?_ ?_
  · have := hn0.cell j
    rw [Addr.add_lit, Nat.zero_add]
    refine this.trans ?_
    simpa [Ty.cells] using hj
  · intro u hu
    simp only [Ty.cells, List.mem_cons, List.not_mem_nil, or_false] at hu
    rcases hu with rfl | rfl | rfl | rfl | rfl | rfl | rfl <;> rfl
  · omega
  · unfold maxLen; omega
  intro h' cap' cs' w4 S4 q3 q1 q2 q4 k4 hor
  go_wp2_with fail
  refine ⟨k4, mixT_endK ?_⟩
  simp only [pickOps, nth]
  simp only [Act.put, List.setIfInBounds_toArray, List.set_cons_succ, List.set_cons_zero]
  haveI : Nonempty World := ⟨w⟩
  (repeat (go_big_quiet_step (fail)))
  refine wpQuiet_nil ?_
  refine store1_sep rfl 39 (.tmp 33) (.tmp 31) rfl S4 3 rfl rfl rfl rfl (by kernel_rfl) rfl ?_
  intro w5 S5 k5 s5
  have c5 : w5.cell? ⟨g, 0, none⟩ = some (.slice (some ⟨h', 0, none⟩) (L.length + 1) cap') := ((S5.at 3 rfl).cell 0).trans rfl
  have i3 : (((L.length + 1 : Nat)) : Int) = L.length + 1 := by omega
  have H3 := Lib.hid i3
  clear i3
  go_wp2_with fail
  go_ret2
  have K1 : Ke (fun i => B ≤ i) w w1 := Ke.below _ b1
  have K2 : Ke (fun i => B ≤ i) w1.drew _ := k2.mono (fun i _ e => by subst e; exact hh)
  have K3 : Ke (fun i => B ≤ i) _ w4 := k4.mono (fun i _ e => by subst e; exact hh)
  have K4 : Ke (fun i => B ≤ i) w4 w5 := k5.mono (fun i _ e => by subst e; exact hg)
  have KB := K1.drew.trans (K2.trans (K3.trans K4))
  have hB' : B ≤ h' := by
    rcases hor with rfl | hor
    · exact hh
    · exact Nat.le_trans hB (Nat.le_trans (K1.drew.trans K2).size hor)
  refine ⟨by rw [HE.out.1, HE.out.2.1]; rfl, ?_, Below.ofKe KB (fun _ h => h) hB⟩
  rw [HE.out.2.2]
  refine ⟨hg, h', cap', cs', hB', ?_, ⟨q3, by rw [List.length_append]; exact q1, q2, ?_⟩⟩
  · have S6 := (S5.perm (List.perm_middle (l₁ := [_, _, _]))).sub (List.Sublist.cons_cons _ (List.Sublist.cons_cons _ (List.Sublist.cons _ (List.Sublist.cons _ (List.Sublist.refl _)))))
    rw [List.length_append]
    exact S6
  · rw [List.length_append]
    refine q4.trans ?_
    simp [tyRow]

theorem add_walk {B : Nat} {w : World} {g : Nat} {L : List Ty} {nf : Int} {R : List Row} (T : Tab B w g L nf R) (x : Ty) (hB : B ≤ w.heap.size) (h1 : 1 ≤ L.length) :
    Calls Try.prog 31 #[.pointer (some ⟨g, 0, none⟩), x.val] w (AddIs B g L nf R x w) := by
  by_cases h : L.length ≤ 200
  · exact add_more T x hB h1 h
  · exact add_full T x hB (by omega)

end Go.Proofs.Ytbppoegdmmflmaa
