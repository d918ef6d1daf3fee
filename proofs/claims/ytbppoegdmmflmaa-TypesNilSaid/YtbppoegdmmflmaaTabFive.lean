/- A table of types: open arrays, pointers, what is imported. -/
import Derived.Test.YtbppoegdmmflmaaTabKnown
namespace Go.Proofs.Ytbppoegdmmflmaa
set_option linter.unusedVariables false
set_option linter.unusedSimpArgs false
open Go.RowKit

set_option maxHeartbeats 2000000 in
theorem open_walk {B : Nat} {w : World} {g : Nat} {L : List Ty} {nf : Int} {R : List Row} (T : Tab B w g L nf R) (hB : B ≤ w.heap.size) (h1 : 1 ≤ L.length) (base : Int) (hi : inB L base = true) :
    Calls Try.prog 11 #[.pointer (some ⟨g, 0, none⟩), .int .i64 base] w (AddIs B g L nf R ⟨4, base, 0, 8, none, 0, 0, 0, 0⟩ w) := by
  have HC := Lib.hid (add_walk T ⟨4, base, 0, 8, none, 0, 0, 0, 0⟩ hB h1)
  have HI := in_walk T base
  rw [hi] at HI
  have HI2 := Lib.hid HI
  clear T hB h1 HI hi
  go_enter Try.func11, Try.ntmps11
  go_wp2_with fail
  refine HI2.out.mono ?_
  rintro e w1 ⟨rfl, rfl⟩
  go_wp2_with fail
  refine HC.out.mono ?_
  rintro e w' ⟨rfl, hr⟩
  have HR := Lib.hid hr
  clear hr
  go_wp2_with fail
  go_ret2
  exact ⟨rfl, HR.out⟩

set_option maxHeartbeats 2000000 in
theorem pointer0_walk {B : Nat} {w : World} {g : Nat} {L : List Ty} {nf : Int} {R : List Row} (T : Tab B w g L nf R) (hB : B ≤ w.heap.size) (h1 : 1 ≤ L.length) :
    Calls Try.prog 13 #[.pointer (some ⟨g, 0, none⟩), .int .i64 0] w (AddIs B g L nf R ⟨3, 0, 0, 4, none, 0, 0, 0, 0⟩ w) := by
  have HC := Lib.hid (add_walk T ⟨3, 0, 0, 4, none, 0, 0, 0, 0⟩ hB h1)
  clear T hB h1
  go_enter Try.func13, Try.ntmps13
  go_wp2_with fail
  refine HC.out.mono ?_
  rintro e w' ⟨rfl, hr⟩
  have HR := Lib.hid hr
  clear hr
  go_wp2_with fail
  go_ret2
  exact ⟨rfl, HR.out⟩

set_option maxHeartbeats 2000000 in
theorem clone_nil (w : World) : Calls Try.prog 33 #[.slice none 0 0] w fun e w' => e = .returned (.slice none 0 0) ∧ w' = w := by
  have hq := fun w => Lib.run_eql_slice_nil (P := Try.prog) w 34 48 none 0 0 0 0 Try.underlying34
  go_enter Try.func33, Try.ntmps33
  go_wp2_with fail
  go_ret
  exact ⟨rfl, rfl⟩

set_option maxHeartbeats 2000000 in
theorem out_walk (n : Int) (w : World) (h : 0 ≤ n ∧ n ≤ 262144) : Calls Try.prog 34 #[.int .i64 n] w fun e w' => e = .returned (.bool false) ∧ w' = w := by
  go_enter Try.func34, Try.ntmps34
  go_wp2_with fail
  go_ret
  refine ⟨?_, rfl⟩
  show Ending.returned (.bool (decide (n < 0) || decide (262144 < n))) = _
  rw [decide_eq_false (show ¬ n < 0 by omega), decide_eq_false (show ¬ 262144 < n by omega)]
  rfl

set_option maxHeartbeats 2000000 in
theorem idx_nil (f : Value) (w : World) : Calls Try.prog 38 #[.slice none 0 0, f] w fun e w' => e = .returned (.int .i64 (-1)) ∧ w' = w := by
  go_enter Try.func38, Try.ntmps38
  go_wp2_with fail
  go_loopw [8, 5] (fun i j wr => ∃ u : Unit, i = .int .i64 0 ∧ wr = w) (fun i _ _ => 0)
  case atStart => exact ⟨(), rfl, rfl⟩
  case round =>
    obtain ⟨_, rfl, rfl⟩ := hrel
    go_wp2_with fail
    go_ret
    exact ⟨rfl, rfl⟩

set_option maxHeartbeats 2000000 in
theorem contains_nil (f : Value) (w : World) : Calls Try.prog 35 #[.slice none 0 0, f] w fun e w' => e = .returned (.bool false) ∧ w' = w := by
  go_enter Try.func35, Try.ntmps35
  go_wp2_with fail
  refine (idx_nil f w).mono ?_
  rintro e w' ⟨rfl, rfl⟩
  go_wp2_with fail
  go_ret
  exact ⟨rfl, rfl⟩

theorem Tab.drop {B : Nat} {w : World} {g : Nat} {L : List Ty} {nf : Int} {x : Row} {R : List Row} (T : Tab B w g L nf (x :: R)) : Tab B w g L nf R := by
  obtain ⟨hg, h, cap, cs, hh, S, r⟩ := T
  exact ⟨hg, h, cap, cs, hh, S.sub (List.Sublist.cons_cons _ (List.Sublist.cons_cons _ (List.Sublist.cons _ (List.Sublist.refl _)))), r⟩

theorem set_same {h n cap : Nat} {nf : Int} : (tabCells h n cap nf).setIfInBounds 1 (.int .i64 (nf + 0)) = tabCells h n cap nf := by
  rw [Int.add_zero]; rfl

set_option maxRecDepth 20000 in
set_option maxHeartbeats 8000000 in
theorem import_walk {B : Nat} {w : World} {g : Nat} {L : List Ty} {nf : Int} {R : List Row} (T : Tab B w g L nf R) (hB : B ≤ w.heap.size) (h1 : 1 ≤ L.length) (hnf : 0 ≤ nf ∧ nf ≤ 2000) :
    Calls Try.prog 14 #[.pointer (some ⟨g, 0, none⟩), (Ty.mk 3 0 0 4 none 0 0 0 0).val] w (AddIs B g L nf R ⟨3, 0, 0, 4, none, 0, 0, 0, 0⟩ w) := by
  obtain ⟨hg, h, cap, cs, hh, S, r2⟩ := T
  have HS := Lib.hid S
  have HR2 := Lib.hid r2
  have i1 : (1 : Int) ≤ L.length := by omega
  have i2 : (L.length : Int) ≤ 9223372036854775807 := by have := r2.le; have := r2.cap; unfold maxLen at this; omega
  clear S r2
  go_enter Try.func14, Try.ntmps14
  go_wp2_with (refine box_sep rfl 36 (.tmp 1) rfl HS.out rfl (show (Ty.mk 3 0 0 4 none 0 0 0 0).val.cells = #[.int .i64 3, .int .i64 0, .int .i64 0, .int .i64 4, .slice none 0 0, .int .i64 0, .int .i64 0] from rfl) ?_; intro w0 S0 b0 s0; clear s0; have c4 : w0.cell? ⟨w.heap.size, 4, none⟩ = some (.slice none 0 0) := ((S0.at 0 rfl).cell 4).trans rfl)
  refine (clone_nil _).mono ?_
  rintro e w1 ⟨rfl, rfl⟩
  go_wp2_with (first | (refine store1_sep rfl 34 (.tmp 12) (.tmp 11) rfl S0 0 rfl rfl rfl rfl (by kernel_rfl) rfl ?_; intro w2 S2 k2 s2; clear s2; have S2' := S2.alloc #[.nilFunc] 51; have b2 := bel1 w2 (.cells #[.nilFunc] 51)) | (refine store1_sep rfl 51 (.tmp 6) (.func 34) rfl S2' 0 rfl rfl rfl rfl (by kernel_rfl) rfl ?_; intro w3 S3 k3 s3; clear s3; have c0 : w3.cell? ⟨g, 0, none⟩ = some (.slice (some ⟨h, 0, none⟩) L.length cap) := ((S3.at 2 rfl).cell 0).trans rfl; have c3 : w3.cell? ⟨w.heap.size, 3, none⟩ = some (.int .i64 4) := ((S3.at 1 rfl).cell 3).trans rfl; have c5 : w3.cell? ⟨w.heap.size, 4, none⟩ = some (.slice none 0 0) := ((S3.at 1 rfl).cell 4).trans rfl; have c6 : w3.cell? ⟨w2.heap.size, 0, none⟩ = some (.func (.func 34) #[] #[]) := ((S3.at 0 rfl).cell 0).trans rfl))
  refine (out_walk 4 _ (by decide)).mono ?_
  rintro e w4 ⟨rfl, rfl⟩
  go_wp2_with fail
  refine (contains_nil _ _).mono ?_
  rintro e w4 ⟨rfl, rfl⟩
  go_wp2_with fail
  refine wp_region_mix' [] [0, 1, 2, 3, 4, 5, 6, 7, 8, 9, 10, 11, 12] (by kernel_rfl) (by kernel_rfl) (fun _ _ d _ _ h => by cases d <;> exact h) ?_
  intro w5 hb5
  have S5 := S3.bel hb5
  have q1 := (S5.at 2 rfl).laterCellB (v := .int .i64 nf) 1 rfl
  have q2 := (S5.at 1 rfl).laterCellB (v := .slice none 0 0) 4 rfl
  refine mix_end ?_
  simp only [pickOps, nth]
  (repeat (go_big_quiet_step (fail)))
  refine wpQuiet_nil ?_
  have HS5 := Lib.hid S5
  have HB5 := Lib.hid hb5
  have HK2 := Lib.hid k2
  have HK3 := Lib.hid k3
  have HB2 := Lib.hid b2
  have HB0 := Lib.hid b0
  clear q1 q2 S5 S3 S2 S2' S0 c0 c3 c4 c5 c6 hb5 k2 k3 b2 b0
  go_wp2_with (refine load_sep rfl 36 (.tmp 3) rfl HS5.out 1 rfl rfl Try.underlying36 rfl (by kernel_rfl) ?_)
  have S6 := (HS5.out.perm (List.Perm.append_right R (List.perm_append_comm (l₁ := [_, _]) (l₂ := [_, _])))).sub (List.Sublist.cons_cons _ (List.Sublist.cons_cons _ (List.Sublist.cons _ (List.Sublist.refl _))))
  have K5 : Ke (fun i => w.heap.size ≤ i) w w5 := (Ke.below _ HB0.out).trans ((HK2.out.mono (fun i _ e => by subst e; exact Nat.le_refl _)).trans ((Ke.below _ HB2.out).trans ((HK3.out.mono (fun i _ e => by
    have h2 := HB0.out.size
    have h3 := HK2.out.size
    subst e
    exact Nat.le_trans h2 h3)).trans (Ke.below _ HB5.out))))
  have B5 : Below w.heap.size w w5 := Below.ofKe K5 (fun _ h => h) (Nat.le_refl _)
  have T6 : Tab B w5 g L nf ((w.heap.size, #[.int .i64 3, .int .i64 0, .int .i64 0, .int .i64 4, .slice none 0 0, .int .i64 0, .int .i64 0], 36) :: R) := ⟨hg, h, cap, cs, hh, S6, HR2.out⟩
  have HA := Lib.hid (add_walk T6 ⟨3, 0, 0, 4, none, 0, 0, 0, 0⟩ (Nat.le_trans hB B5.size) h1)
  have HB5' := Lib.hid B5
  clear S6 K5 B5 T6
  refine HA.out.mono ?_
  rintro e w6 ⟨rfl, T7, hb7⟩
  have HB7 := Lib.hid ((HB5'.out.mono hB).trans hb7)
  clear hb7
  by_cases hfull : L.length ≤ 200
  · have HE := Lib.hid (show addN L = L.length ∧ addE L = 0 from ⟨if_pos hfull, if_pos hfull⟩)
    obtain ⟨hg', h', cap', cs', hh', S7, r7⟩ := T7
    have HS7 := Lib.hid S7
    have HR7 := Lib.hid r7
    clear S7 r7
    rw [HE.out.1, HE.out.2]
    go_wp2_with fail
    refine wp_region_tail [([0, 1, 2, 3, 4, 5, 6, 7, 8], 9)] [] 10 [9, 8, 7, 6, 5, 4, 3, 2, 1, 0] (by kernel_rfl) (by kernel_rfl) (fun _ _ d _ _ h => by cases d <;> exact h) ?_
    intro w8 hb8
    have S8 := HS7.out.bel hb8
    have q1 := (S8.at 0 rfl).laterCellB (v := .int .i64 nf) 1 rfl
    have q2 := (S8.at 2 rfl).laterCellB (v := .slice none 0 0) 4 rfl
    refine mixT_step ?_
    simp only [pickOps, nth]
    (repeat (go_big_quiet_step (fail)))
    refine wpQuiet_nil ?_
    have HS8 := Lib.hid S8
    have HB8 := Lib.hid hb8
    clear q1 q2 S8 hb8
    go_wp2_with fail
    refine ⟨Below.refl _ _, mixT_end ?_⟩
    simp only [pickOps, nth]
    refine wpQuiet_nil ?_
    refine store1_sep rfl 3 (.tmp 65) (.tmp 63) rfl HS8.out 0 (v := .int .i64 nf) rfl rfl rfl rfl (by kernel_rfl) rfl ?_
    intro w9 S9 k9 s9
    have HS9 := Lib.hid S9
    have HK9 := Lib.hid k9
    clear S9 k9 s9
    go_wp2_with fail
    go_ret2
    have T9 : Tab B w9 g (addL L ⟨3, 0, 0, 4, none, 0, 0, 0, 0⟩) nf (_ :: R) := ⟨hg', h', cap', cs', hh', HS9.out, HR7.out⟩
    refine ⟨by rw [HE.out.1, HE.out.2]; rfl, T9.drop, HB7.out.trans ((HB8.out.mono (Nat.le_trans hB HB7.out.size)).trans (Below.ofKe (HK9.out) (fun i e => by subst e; exact hg) ?_))⟩
    exact Nat.le_trans hB (Nat.le_trans HB7.out.size HB8.out.size)
  · have HE := Lib.hid (show addN L = 0 ∧ addE L = 64 from ⟨if_neg hfull, if_neg hfull⟩)
    rw [HE.out.1, HE.out.2]
    have HT7 := Lib.hid T7
    clear T7
    go_wp2_with fail
    go_ret2
    exact ⟨by rw [HE.out.1, HE.out.2]; rfl, HT7.out.drop, HB7.out⟩

end Go.Proofs.Ytbppoegdmmflmaa
