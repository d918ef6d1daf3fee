/- Contract of isa.Text at a jump and at a call. -/
import Derived.Test.YtmnmbpenonodiaaDoorIsaText
namespace Go.Proofs.YtmnmbpenonodiaaDoor
set_option linter.unusedVariables false
set_option linter.unusedSimpArgs false
open Go.RowKit Go.Lib

theorem bit_bel (f : Bool) (w : World) : Calls Tryd.prog 38 #[.bool f] w fun e w' => e = .returned (.int .i64 (if f then 1 else 0)) ∧ Below w.heap.size w w' :=
  (bit_walk f w).mono fun e w' ⟨he, hw⟩ => ⟨he, by subst hw; exact Below.refl _ _⟩
theorem cond_is (n : Int) (t : ByteArray) (w : World) (hn : -9223372036854775808 ≤ n ∧ n ≤ 9223372036854775807) (ht : condN n = t) : Calls Tryd.prog 10 #[.int .i64 n] w fun e w' => e = .returned (.string t) ∧ Below w.heap.size w w' := ht ▸ cond_walk n w hn
theorem itoa_is (n : Int) (t : ByteArray) (w : World) (hn : -9223372036854775808 ≤ n ∧ n ≤ 9223372036854775807) (hL : Laid w) (ht : num n = t) : Calls Tryd.prog 35 #[.int .i64 n] w fun e w' => e = .returned (.string t) ∧ Below w.heap.size w w' := ht ▸ itoa_walk n w hn hL

set_option maxRecDepth 20000 in
set_option maxHeartbeats 8000000 in
theorem text_2 (w : World) (hL : Laid w) (hM : ∀ w, Calls Tryd.prog 19 #[i2.val] w fun e w' => e = .returned (.bool true) ∧ Below w.heap.size w w') :
    Calls Tryd.prog 20 #[i2.val] w fun e w' => e = .returned (.tuple #[.string ⟨#[66, 76, 32, 84, 32, 45, 49]⟩, .int .i64 0]) ∧ Below w.heap.size w w' := by
  have HL := Lib.hid hL
  have HM := Lib.hid hM
  have H0 := (Sep.nil w).alloc #[.int .i64 4, .bool false, .bool true, .int .i64 0, .int .i64 0, .int .i64 0, .int .i64 0, .int .i64 0, .int .i64 (-1), .int .i64 7, .int .i64 0] 29
  have B0 := Lib.hid (bel1 w (.cells #[.int .i64 4, .bool false, .bool true, .int .i64 0, .int .i64 0, .int .i64 0, .int .i64 0, .int .i64 0, .int .i64 (-1), .int .i64 7, .int .i64 0] 29))
  clear hL hM
  go_enter Tryd.func20, Tryd.ntmps20
  go_wp2_with (refine load_sep rfl 29 (.tmp 1) rfl H0 0 rfl rfl Tryd.underlying29 rfl (by kernel_rfl) ?_)
  refine (HM.out _).mono ?_
  rintro e w1 ⟨rfl, hb1⟩
  have H1 := H0.bel hb1
  have B1 := Lib.hid (bel_then B0.out hb1)
  clear hb1 H0
  have fA : True := trivial
  go_wp2_with (have _f := fA; refine alloc_sep rfl 22 rfl H1 (z := .slice none 0 0) (cs := #[.slice none 0 0]) (by kernel_rfl) rfl ?_; intro w2 H2 b2 s2; have B2 := Lib.hid (bel_then B1.out b2); have g2 : w1.heap.size < w2.heap.size := (by omega); have f0 : w2.cell? ⟨w.heap.size, 0, none⟩ = some (.int .i64 4) := ((H2.at 1 rfl).cell 0).trans rfl; clear fA _f s2 b2)
  refine wp_region_rest (· = w1.heap.size) 12 (by kernel_rfl) rfl ?_
  intro u0 hb3
  have t0 : St w u0 (w1.heap.size + 1) w1.heap.size w.heap.size (.slice none 0 0) [] #[.int .i64 4, .bool false, .bool true, .int .i64 0, .int .i64 0, .int .i64 0, .int .i64 0, .int .i64 0, .int .i64 (-1), .int .i64 7, .int .i64 0] := ⟨Lst.nil ((H2.bel hb3).at 0 rfl), (H2.bel hb3).at 1 rfl, bel_then B2.out hb3, Nat.le_refl _, (H1.at 0 rfl).lt⟩
  have n1 : ¬ (w.heap.size = w1.heap.size) := Nat.ne_of_lt ((H1.at 0 rfl).lt)
  have N1 := Lib.hid n1
  have T0 := Lib.hid t0
  clear hb3 n1 t0
  have r0 := T0.out.I.laterCell (G := (· = w1.heap.size)) N1.out 2 (v := .bool true) rfl
  have r1 := T0.out.I.laterCell (G := (· = w1.heap.size)) N1.out 9 (v := .int .i64 7) rfl
  refine rest_step [0, 2, 3, 7, 8] [1, 4] (by kernel_rfl) (fun _ _ d _ _ h => by cases d <;> exact h) (by kernel_rfl) rfl (by kernel_rfl) (by decide) rfl ?_
  simp only [pickOps, nth]
  (repeat (go_big_quiet_step (fail)))
  refine wpQuiet_nil ?_
  clear r0 r1
  refine all2 ?_ ?_
  · skip
    simp only [pickOps, nth]
    go_wp2_with fail
    refine ⟨Ke.below _ (bel1 _ _), ?_⟩
    obtain ⟨u1, hu⟩ : ∃ u', u' = u0.alloc (.cells #[.string ⟨#[66]⟩, .string ⟨#[66, 76]⟩] 9) := ⟨_, rfl⟩
    have T1 := Lib.hid (show St w u1 _ _ _ _ _ _ by rw [hu]; exact T0.out.bel (bel1 _ _))
    have A1 := Lib.hid (show At u1 u0.heap.size #[.string ⟨#[66]⟩, .string ⟨#[66, 76]⟩] 9 by rw [hu]; exact At.new _ _ _)
    have NA := Lib.hid (show ¬ (u0.heap.size = w1.heap.size) by have := T0.out.L.at'.lt; omega)
    rw [← hu]
    clear hu
    refine rest_step [] [4] (by kernel_rfl) (fun _ _ d _ _ h => by cases d <;> exact h) (by kernel_rfl) rfl (by kernel_rfl) (by decide) rfl ?_
    simp only [pickOps, nth]
    (repeat (go_big_quiet_step (fail)))
    refine wpQuiet_nil ?_
    refine all1 ?_
    simp only [pickOps, nth]
    go_wp2_with fail
    refine (bit_bel true _).mono ?_
    rintro e u2 ⟨rfl, hb⟩
    have HB := Lib.hid hb
    have T2 := Lib.hid (T1.out.bel hb)
    have A2 := Lib.hid (A1.out.bel hb)
    clear hb
    go_wp2_with fail
    refine ⟨Ke.below _ HB.out, ?_⟩
    clear HB
    have r0 := A2.out.laterCell (G := (· = w1.heap.size)) NA.out 1 (v := .string ⟨#[66, 76]⟩) rfl
    refine rest_step [5, 6] [9] (by kernel_rfl) (fun _ _ d _ _ h => by cases d <;> exact h) (by kernel_rfl) rfl (by kernel_rfl) (by decide) rfl ?_
    simp only [pickOps, nth]
    (repeat (go_big_quiet_step (fail)))
    refine wpQuiet_nil ?_
    clear r0
    refine all1 ?_
    simp only [pickOps, nth]
    go_wp2_with fail
    refine (cond_is 7 ⟨#[84]⟩ _ (by decide) (by kernel_rfl)).mono ?_
    rintro e u3 ⟨rfl, hb⟩
    have HB := Lib.hid hb
    have T3 := Lib.hid (T2.out.bel hb)
    have A3 := Lib.hid (A2.out.bel hb)
    clear hb
    go_wp2_with fail
    refine ⟨Ke.below _ HB.out, ?_⟩
    clear HB
    refine rest_step [] [10] (by kernel_rfl) (fun _ _ d _ _ h => by cases d <;> exact h) (by kernel_rfl) rfl (by kernel_rfl) (by decide) rfl ?_
    simp only [pickOps, nth]
    (repeat (go_big_quiet_step (fail)))
    refine wpQuiet_nil ?_
    refine all1 ?_
    simp only [pickOps, nth]
    go_wp2_with fail
    refine ⟨Ke.below _ (bel1 _ _), ?_⟩
    refine rest_step [] [11] (by kernel_rfl) (fun _ _ d _ _ h => by cases d <;> exact h) (by kernel_rfl) rfl (by kernel_rfl) (by decide) rfl ?_
    simp only [pickOps, nth]
    refine wpQuiet_nil ?_
    refine all1 ?_
    simp only [pickOps, nth]
    go_wp2_with fail
    refine (put_st T3.out [⟨#[66, 76]⟩, ⟨#[84]⟩] _ rfl 2 rfl (by decide)).mono ?_
    rintro e u ⟨rfl, v6, s6, k6⟩
    have HK6 : Hid (Ke (· = w1.heap.size) _ u) := Lib.hid (k6.mono (fun i _ h => by rcases h with h | h; exact h; cases h))
    have S6 := Lib.hid s6
    have f1 : True := trivial
    have h0 : u.cell? ⟨w.heap.size, 0, none⟩ = some (.int .i64 4) := (s6.I.cell 0).trans rfl
    have h8 : u.cell? ⟨w.heap.size, 8, none⟩ = some (.int .i64 (-1)) := (s6.I.cell 8).trans rfl
    clear k6 s6 f0 f1
    go_wp2_with fail
    refine ⟨HK6.out, rest_end [] (by kernel_rfl) (fun _ _ d _ _ h => by cases d <;> exact h) (by kernel_rfl) (by kernel_rfl) rfl ?_⟩
    simp only [pickOps, nth]
    refine wpQuiet_nil ?_
    go_wp2_with fail
    refine (itoa_is (-1) ⟨#[45, 49]⟩ _ (by decide) (S6.out.laid HL.out) (by kernel_rfl)).mono ?_
    rintro e x1 ⟨rfl, hb⟩
    have s7 := S6.out.bel hb
    clear hb h0 h8
    go_wp2_with fail
    refine (put_st s7 [⟨#[45, 49]⟩] _ rfl 1 rfl (by decide)).mono ?_
    rintro e x2 ⟨rfl, v8, s8, k8⟩
    have S8 := Lib.hid s8
    have c4 : x2.cell? ⟨w1.heap.size, 0, none⟩ = some v8 := (s8.L.at'.cell 0).trans rfl
    clear s7 s8 k8
    go_wp2_with fail
    refine (join_walk S8.out.L (by decide) (by decide) (by decide) ⟨#[66, 76, 32, 84, 32, 45, 49]⟩ (by kernel_rfl)).mono ?_
    rintro e x3 ⟨rfl, hb12⟩
    have B12 := Lib.hid (bel_then S8.out.B hb12)
    clear hb12
    go_wp2_with fail
    go_ret2
    exact ⟨rfl, B12.out⟩
  · skip
    simp only [pickOps, nth]
    go_wp2_with fail
    refine (bit_bel true _).mono ?_
    rintro e u1 ⟨rfl, hb⟩
    have HB := Lib.hid hb
    have T1 := Lib.hid (T0.out.bel hb)
    clear hb
    go_wp2_with fail
    refine ⟨Ke.below _ HB.out, ?_⟩
    clear HB
    refine rest_step [] [1, 9] (by kernel_rfl) (fun _ _ d _ _ h => by cases d <;> exact h) (by kernel_rfl) rfl (by kernel_rfl) (by decide) rfl ?_
    simp only [pickOps, nth]
    (repeat (go_big_quiet_step (fail)))
    refine wpQuiet_nil ?_
    refine all2 ?_ ?_
    · skip
      simp only [pickOps, nth]
      go_wp2_with fail
      refine ⟨Ke.below _ (bel1 _ _), ?_⟩
      obtain ⟨u2, hu⟩ : ∃ u', u' = u1.alloc (.cells #[.string ⟨#[66]⟩, .string ⟨#[66, 76]⟩] 9) := ⟨_, rfl⟩
      have T2 := Lib.hid (show St w u2 _ _ _ _ _ _ by rw [hu]; exact T1.out.bel (bel1 _ _))
      have A2 := Lib.hid (show At u2 u1.heap.size #[.string ⟨#[66]⟩, .string ⟨#[66, 76]⟩] 9 by rw [hu]; exact At.new _ _ _)
      have NA := Lib.hid (show ¬ (u1.heap.size = w1.heap.size) by have := T1.out.L.at'.lt; omega)
      rw [← hu]
      clear hu
      have r0 := A2.out.laterCell (G := (· = w1.heap.size)) NA.out 1 (v := .string ⟨#[66, 76]⟩) rfl
      refine rest_step [5, 6] [9] (by kernel_rfl) (fun _ _ d _ _ h => by cases d <;> exact h) (by kernel_rfl) rfl (by kernel_rfl) (by decide) rfl ?_
      simp only [pickOps, nth]
      (repeat (go_big_quiet_step (fail)))
      refine wpQuiet_nil ?_
      clear r0
      refine all1 ?_
      simp only [pickOps, nth]
      go_wp2_with fail
      refine (cond_is 7 ⟨#[84]⟩ _ (by decide) (by kernel_rfl)).mono ?_
      rintro e u3 ⟨rfl, hb⟩
      have HB := Lib.hid hb
      have T3 := Lib.hid (T2.out.bel hb)
      have A3 := Lib.hid (A2.out.bel hb)
      clear hb
      go_wp2_with fail
      refine ⟨Ke.below _ HB.out, ?_⟩
      clear HB
      refine rest_step [] [10] (by kernel_rfl) (fun _ _ d _ _ h => by cases d <;> exact h) (by kernel_rfl) rfl (by kernel_rfl) (by decide) rfl ?_
      simp only [pickOps, nth]
      (repeat (go_big_quiet_step (fail)))
      refine wpQuiet_nil ?_
      refine all1 ?_
      simp only [pickOps, nth]
      go_wp2_with fail
      refine ⟨Ke.below _ (bel1 _ _), ?_⟩
      refine rest_step [] [11] (by kernel_rfl) (fun _ _ d _ _ h => by cases d <;> exact h) (by kernel_rfl) rfl (by kernel_rfl) (by decide) rfl ?_
      simp only [pickOps, nth]
      refine wpQuiet_nil ?_
      refine all1 ?_
      simp only [pickOps, nth]
      go_wp2_with fail
      refine (put_st T3.out [⟨#[66, 76]⟩, ⟨#[84]⟩] _ rfl 2 rfl (by decide)).mono ?_
      rintro e u ⟨rfl, v6, s6, k6⟩
      have HK6 : Hid (Ke (· = w1.heap.size) _ u) := Lib.hid (k6.mono (fun i _ h => by rcases h with h | h; exact h; cases h))
      have S6 := Lib.hid s6
      have f1 : True := trivial
      have h0 : u.cell? ⟨w.heap.size, 0, none⟩ = some (.int .i64 4) := (s6.I.cell 0).trans rfl
      have h8 : u.cell? ⟨w.heap.size, 8, none⟩ = some (.int .i64 (-1)) := (s6.I.cell 8).trans rfl
      clear k6 s6 f0 f1
      go_wp2_with fail
      refine ⟨HK6.out, rest_end [] (by kernel_rfl) (fun _ _ d _ _ h => by cases d <;> exact h) (by kernel_rfl) (by kernel_rfl) rfl ?_⟩
      simp only [pickOps, nth]
      refine wpQuiet_nil ?_
      go_wp2_with fail
      refine (itoa_is (-1) ⟨#[45, 49]⟩ _ (by decide) (S6.out.laid HL.out) (by kernel_rfl)).mono ?_
      rintro e x1 ⟨rfl, hb⟩
      have s7 := S6.out.bel hb
      clear hb h0 h8
      go_wp2_with fail
      refine (put_st s7 [⟨#[45, 49]⟩] _ rfl 1 rfl (by decide)).mono ?_
      rintro e x2 ⟨rfl, v8, s8, k8⟩
      have S8 := Lib.hid s8
      have c4 : x2.cell? ⟨w1.heap.size, 0, none⟩ = some v8 := (s8.L.at'.cell 0).trans rfl
      clear s7 s8 k8
      go_wp2_with fail
      refine (join_walk S8.out.L (by decide) (by decide) (by decide) ⟨#[66, 76, 32, 84, 32, 45, 49]⟩ (by kernel_rfl)).mono ?_
      rintro e x3 ⟨rfl, hb12⟩
      have B12 := Lib.hid (bel_then S8.out.B hb12)
      clear hb12
      go_wp2_with fail
      go_ret2
      exact ⟨rfl, B12.out⟩
    · skip
      simp only [pickOps, nth]
      go_wp2_with fail
      refine (cond_is 7 ⟨#[84]⟩ _ (by decide) (by kernel_rfl)).mono ?_
      rintro e u2 ⟨rfl, hb⟩
      have HB := Lib.hid hb
      have T2 := Lib.hid (T1.out.bel hb)
      clear hb
      go_wp2_with fail
      refine ⟨Ke.below _ HB.out, ?_⟩
      clear HB
      refine rest_step [] [1] (by kernel_rfl) (fun _ _ d _ _ h => by cases d <;> exact h) (by kernel_rfl) rfl (by kernel_rfl) (by decide) rfl ?_
      simp only [pickOps, nth]
      (repeat (go_big_quiet_step (fail)))
      refine wpQuiet_nil ?_
      refine all1 ?_
      simp only [pickOps, nth]
      go_wp2_with fail
      refine ⟨Ke.below _ (bel1 _ _), ?_⟩
      obtain ⟨u3, hu⟩ : ∃ u', u' = u2.alloc (.cells #[.string ⟨#[66]⟩, .string ⟨#[66, 76]⟩] 9) := ⟨_, rfl⟩
      have T3 := Lib.hid (show St w u3 _ _ _ _ _ _ by rw [hu]; exact T2.out.bel (bel1 _ _))
      have A3 := Lib.hid (show At u3 u2.heap.size #[.string ⟨#[66]⟩, .string ⟨#[66, 76]⟩] 9 by rw [hu]; exact At.new _ _ _)
      have NA := Lib.hid (show ¬ (u2.heap.size = w1.heap.size) by have := T2.out.L.at'.lt; omega)
      rw [← hu]
      clear hu
      have r0 := A3.out.laterCell (G := (· = w1.heap.size)) NA.out 1 (v := .string ⟨#[66, 76]⟩) rfl
      refine rest_step [5, 6] [10] (by kernel_rfl) (fun _ _ d _ _ h => by cases d <;> exact h) (by kernel_rfl) rfl (by kernel_rfl) (by decide) rfl ?_
      simp only [pickOps, nth]
      (repeat (go_big_quiet_step (fail)))
      refine wpQuiet_nil ?_
      clear r0
      refine all1 ?_
      simp only [pickOps, nth]
      go_wp2_with fail
      refine ⟨Ke.below _ (bel1 _ _), ?_⟩
      refine rest_step [] [11] (by kernel_rfl) (fun _ _ d _ _ h => by cases d <;> exact h) (by kernel_rfl) rfl (by kernel_rfl) (by decide) rfl ?_
      simp only [pickOps, nth]
      refine wpQuiet_nil ?_
      refine all1 ?_
      simp only [pickOps, nth]
      go_wp2_with fail
      refine (put_st T3.out [⟨#[66, 76]⟩, ⟨#[84]⟩] _ rfl 2 rfl (by decide)).mono ?_
      rintro e u ⟨rfl, v6, s6, k6⟩
      have HK6 : Hid (Ke (· = w1.heap.size) _ u) := Lib.hid (k6.mono (fun i _ h => by rcases h with h | h; exact h; cases h))
      have S6 := Lib.hid s6
      have f1 : True := trivial
      have h0 : u.cell? ⟨w.heap.size, 0, none⟩ = some (.int .i64 4) := (s6.I.cell 0).trans rfl
      have h8 : u.cell? ⟨w.heap.size, 8, none⟩ = some (.int .i64 (-1)) := (s6.I.cell 8).trans rfl
      clear k6 s6 f0 f1
      go_wp2_with fail
      refine ⟨HK6.out, rest_end [] (by kernel_rfl) (fun _ _ d _ _ h => by cases d <;> exact h) (by kernel_rfl) (by kernel_rfl) rfl ?_⟩
      simp only [pickOps, nth]
      refine wpQuiet_nil ?_
      go_wp2_with fail
      refine (itoa_is (-1) ⟨#[45, 49]⟩ _ (by decide) (S6.out.laid HL.out) (by kernel_rfl)).mono ?_
      rintro e x1 ⟨rfl, hb⟩
      have s7 := S6.out.bel hb
      clear hb h0 h8
      go_wp2_with fail
      refine (put_st s7 [⟨#[45, 49]⟩] _ rfl 1 rfl (by decide)).mono ?_
      rintro e x2 ⟨rfl, v8, s8, k8⟩
      have S8 := Lib.hid s8
      have c4 : x2.cell? ⟨w1.heap.size, 0, none⟩ = some v8 := (s8.L.at'.cell 0).trans rfl
      clear s7 s8 k8
      go_wp2_with fail
      refine (join_walk S8.out.L (by decide) (by decide) (by decide) ⟨#[66, 76, 32, 84, 32, 45, 49]⟩ (by kernel_rfl)).mono ?_
      rintro e x3 ⟨rfl, hb12⟩
      have B12 := Lib.hid (bel_then S8.out.B hb12)
      clear hb12
      go_wp2_with fail
      go_ret2
      exact ⟨rfl, B12.out⟩

set_option maxRecDepth 20000 in
set_option maxHeartbeats 8000000 in
theorem text_3 (w : World) (hL : Laid w) (hM : ∀ w, Calls Tryd.prog 19 #[i3.val] w fun e w' => e = .returned (.bool true) ∧ Below w.heap.size w w') :
    Calls Tryd.prog 20 #[i3.val] w fun e w' => e = .returned (.tuple #[.string ⟨#[83, 89, 83, 32, 84, 32, 49, 54]⟩, .int .i64 0]) ∧ Below w.heap.size w w' := by
  have HL := Lib.hid hL
  have HM := Lib.hid hM
  have H0 := (Sep.nil w).alloc #[.int .i64 6, .bool false, .bool false, .int .i64 0, .int .i64 0, .int .i64 0, .int .i64 0, .int .i64 0, .int .i64 0, .int .i64 7, .int .i64 16] 29
  have B0 := Lib.hid (bel1 w (.cells #[.int .i64 6, .bool false, .bool false, .int .i64 0, .int .i64 0, .int .i64 0, .int .i64 0, .int .i64 0, .int .i64 0, .int .i64 7, .int .i64 16] 29))
  clear hL hM
  go_enter Tryd.func20, Tryd.ntmps20
  go_wp2_with (refine load_sep rfl 29 (.tmp 1) rfl H0 0 rfl rfl Tryd.underlying29 rfl (by kernel_rfl) ?_)
  refine (HM.out _).mono ?_
  rintro e w1 ⟨rfl, hb1⟩
  have H1 := H0.bel hb1
  have B1 := Lib.hid (bel_then B0.out hb1)
  clear hb1 H0
  have fA : True := trivial
  go_wp2_with (have _f := fA; refine alloc_sep rfl 22 rfl H1 (z := .slice none 0 0) (cs := #[.slice none 0 0]) (by kernel_rfl) rfl ?_; intro w2 H2 b2 s2; have B2 := Lib.hid (bel_then B1.out b2); have g2 : w1.heap.size < w2.heap.size := (by omega); have f0 : w2.cell? ⟨w.heap.size, 0, none⟩ = some (.int .i64 6) := ((H2.at 1 rfl).cell 0).trans rfl; clear fA _f s2 b2)
  refine wp_region_rest (· = w1.heap.size) 17 (by kernel_rfl) rfl ?_
  intro u0 hb3
  have t0 : St w u0 (w1.heap.size + 1) w1.heap.size w.heap.size (.slice none 0 0) [] #[.int .i64 6, .bool false, .bool false, .int .i64 0, .int .i64 0, .int .i64 0, .int .i64 0, .int .i64 0, .int .i64 0, .int .i64 7, .int .i64 16] := ⟨Lst.nil ((H2.bel hb3).at 0 rfl), (H2.bel hb3).at 1 rfl, bel_then B2.out hb3, Nat.le_refl _, (H1.at 0 rfl).lt⟩
  have n1 : ¬ (w.heap.size = w1.heap.size) := Nat.ne_of_lt ((H1.at 0 rfl).lt)
  have N1 := Lib.hid n1
  have T0 := Lib.hid t0
  clear hb3 n1 t0
  have r0 := T0.out.I.laterCell (G := (· = w1.heap.size)) N1.out 10 (v := .int .i64 16) rfl
  have r1 := T0.out.I.laterCell (G := (· = w1.heap.size)) N1.out 9 (v := .int .i64 7) rfl
  refine rest_step [0, 2, 3, 4, 8, 9, 11, 12, 13] [1, 5] (by kernel_rfl) (fun _ _ d _ _ h => by cases d <;> exact h) (by kernel_rfl) rfl (by kernel_rfl) (by decide) rfl ?_
  simp only [pickOps, nth]
  (repeat (go_big_quiet_step (fail)))
  refine wpQuiet_nil ?_
  clear r0 r1
  refine all2 ?_ ?_
  · skip
    simp only [pickOps, nth]
    go_wp2_with fail
    refine ⟨Ke.below _ (bel1 _ _), ?_⟩
    obtain ⟨u1, hu⟩ : ∃ u', u' = u0.alloc (.cells #[.string ⟨#[84, 82, 65, 80]⟩, .string ⟨#[83, 89, 83]⟩] 9) := ⟨_, rfl⟩
    have T1 := Lib.hid (show St w u1 _ _ _ _ _ _ by rw [hu]; exact T0.out.bel (bel1 _ _))
    have A1 := Lib.hid (show At u1 u0.heap.size #[.string ⟨#[84, 82, 65, 80]⟩, .string ⟨#[83, 89, 83]⟩] 9 by rw [hu]; exact At.new _ _ _)
    have NA := Lib.hid (show ¬ (u0.heap.size = w1.heap.size) by have := T0.out.L.at'.lt; omega)
    rw [← hu]
    clear hu
    refine rest_step [] [5] (by kernel_rfl) (fun _ _ d _ _ h => by cases d <;> exact h) (by kernel_rfl) rfl (by kernel_rfl) (by decide) rfl ?_
    simp only [pickOps, nth]
    (repeat (go_big_quiet_step (fail)))
    refine wpQuiet_nil ?_
    refine all1 ?_
    simp only [pickOps, nth]
    go_wp2_with fail
    refine (bit_bel true _).mono ?_
    rintro e u2 ⟨rfl, hb⟩
    have HB := Lib.hid hb
    have T2 := Lib.hid (T1.out.bel hb)
    have A2 := Lib.hid (A1.out.bel hb)
    clear hb
    go_wp2_with fail
    refine ⟨Ke.below _ HB.out, ?_⟩
    clear HB
    have r0 := A2.out.laterCell (G := (· = w1.heap.size)) NA.out 1 (v := .string ⟨#[83, 89, 83]⟩) rfl
    refine rest_step [6, 7] [10] (by kernel_rfl) (fun _ _ d _ _ h => by cases d <;> exact h) (by kernel_rfl) rfl (by kernel_rfl) (by decide) rfl ?_
    simp only [pickOps, nth]
    (repeat (go_big_quiet_step (fail)))
    refine wpQuiet_nil ?_
    clear r0
    refine all1 ?_
    simp only [pickOps, nth]
    go_wp2_with fail
    refine (cond_is 7 ⟨#[84]⟩ _ (by decide) (by kernel_rfl)).mono ?_
    rintro e u3 ⟨rfl, hb⟩
    have HB := Lib.hid hb
    have T3 := Lib.hid (T2.out.bel hb)
    have A3 := Lib.hid (A2.out.bel hb)
    clear hb
    go_wp2_with fail
    refine ⟨Ke.below _ HB.out, ?_⟩
    clear HB
    refine rest_step [] [14] (by kernel_rfl) (fun _ _ d _ _ h => by cases d <;> exact h) (by kernel_rfl) rfl (by kernel_rfl) (by decide) rfl ?_
    simp only [pickOps, nth]
    (repeat (go_big_quiet_step (fail)))
    refine wpQuiet_nil ?_
    refine all1 ?_
    simp only [pickOps, nth]
    go_wp2_with fail
    refine (itoa_is 16 ⟨#[49, 54]⟩ _ (by decide) (T3.out.laid HL.out) (by kernel_rfl)).mono ?_
    rintro e u4 ⟨rfl, hb⟩
    have HB := Lib.hid hb
    have T4 := Lib.hid (T3.out.bel hb)
    have A4 := Lib.hid (A3.out.bel hb)
    clear hb
    go_wp2_with fail
    refine ⟨Ke.below _ HB.out, ?_⟩
    clear HB
    refine rest_step [] [15] (by kernel_rfl) (fun _ _ d _ _ h => by cases d <;> exact h) (by kernel_rfl) rfl (by kernel_rfl) (by decide) rfl ?_
    simp only [pickOps, nth]
    (repeat (go_big_quiet_step (fail)))
    refine wpQuiet_nil ?_
    refine all1 ?_
    simp only [pickOps, nth]
    go_wp2_with fail
    refine ⟨Ke.below _ (bel1 _ _), ?_⟩
    refine rest_step [] [16] (by kernel_rfl) (fun _ _ d _ _ h => by cases d <;> exact h) (by kernel_rfl) rfl (by kernel_rfl) (by decide) rfl ?_
    simp only [pickOps, nth]
    refine wpQuiet_nil ?_
    refine all1 ?_
    simp only [pickOps, nth]
    go_wp2_with fail
    refine (put_st T4.out [⟨#[83, 89, 83]⟩, ⟨#[84]⟩, ⟨#[49, 54]⟩] _ rfl 3 rfl (by decide)).mono ?_
    rintro e u ⟨rfl, v6, s6, k6⟩
    have HK6 : Hid (Ke (· = w1.heap.size) _ u) := Lib.hid (k6.mono (fun i _ h => by rcases h with h | h; exact h; cases h))
    have S6 := Lib.hid s6
    have f1 : True := trivial
    have c4 : u.cell? ⟨w1.heap.size, 0, none⟩ = some v6 := (s6.L.at'.cell 0).trans rfl
    clear k6 s6 f0 f1
    go_wp2_with fail
    refine ⟨HK6.out, rest_end [] (by kernel_rfl) (fun _ _ d _ _ h => by cases d <;> exact h) (by kernel_rfl) (by kernel_rfl) rfl ?_⟩
    simp only [pickOps, nth]
    refine wpQuiet_nil ?_
    go_wp2_with fail
    refine (join_walk S6.out.L (by decide) (by decide) (by decide) ⟨#[83, 89, 83, 32, 84, 32, 49, 54]⟩ (by kernel_rfl)).mono ?_
    rintro e x3 ⟨rfl, hb12⟩
    have B12 := Lib.hid (bel_then S6.out.B hb12)
    clear hb12
    go_wp2_with fail
    go_ret2
    exact ⟨rfl, B12.out⟩
  · skip
    simp only [pickOps, nth]
    go_wp2_with fail
    refine (bit_bel true _).mono ?_
    rintro e u1 ⟨rfl, hb⟩
    have HB := Lib.hid hb
    have T1 := Lib.hid (T0.out.bel hb)
    clear hb
    go_wp2_with fail
    refine ⟨Ke.below _ HB.out, ?_⟩
    clear HB
    refine rest_step [] [1, 10] (by kernel_rfl) (fun _ _ d _ _ h => by cases d <;> exact h) (by kernel_rfl) rfl (by kernel_rfl) (by decide) rfl ?_
    simp only [pickOps, nth]
    (repeat (go_big_quiet_step (fail)))
    refine wpQuiet_nil ?_
    refine all2 ?_ ?_
    · skip
      simp only [pickOps, nth]
      go_wp2_with fail
      refine ⟨Ke.below _ (bel1 _ _), ?_⟩
      obtain ⟨u2, hu⟩ : ∃ u', u' = u1.alloc (.cells #[.string ⟨#[84, 82, 65, 80]⟩, .string ⟨#[83, 89, 83]⟩] 9) := ⟨_, rfl⟩
      have T2 := Lib.hid (show St w u2 _ _ _ _ _ _ by rw [hu]; exact T1.out.bel (bel1 _ _))
      have A2 := Lib.hid (show At u2 u1.heap.size #[.string ⟨#[84, 82, 65, 80]⟩, .string ⟨#[83, 89, 83]⟩] 9 by rw [hu]; exact At.new _ _ _)
      have NA := Lib.hid (show ¬ (u1.heap.size = w1.heap.size) by have := T1.out.L.at'.lt; omega)
      rw [← hu]
      clear hu
      have r0 := A2.out.laterCell (G := (· = w1.heap.size)) NA.out 1 (v := .string ⟨#[83, 89, 83]⟩) rfl
      refine rest_step [6, 7] [10] (by kernel_rfl) (fun _ _ d _ _ h => by cases d <;> exact h) (by kernel_rfl) rfl (by kernel_rfl) (by decide) rfl ?_
      simp only [pickOps, nth]
      (repeat (go_big_quiet_step (fail)))
      refine wpQuiet_nil ?_
      clear r0
      refine all1 ?_
      simp only [pickOps, nth]
      go_wp2_with fail
      refine (cond_is 7 ⟨#[84]⟩ _ (by decide) (by kernel_rfl)).mono ?_
      rintro e u3 ⟨rfl, hb⟩
      have HB := Lib.hid hb
      have T3 := Lib.hid (T2.out.bel hb)
      have A3 := Lib.hid (A2.out.bel hb)
      clear hb
      go_wp2_with fail
      refine ⟨Ke.below _ HB.out, ?_⟩
      clear HB
      refine rest_step [] [14] (by kernel_rfl) (fun _ _ d _ _ h => by cases d <;> exact h) (by kernel_rfl) rfl (by kernel_rfl) (by decide) rfl ?_
      simp only [pickOps, nth]
      (repeat (go_big_quiet_step (fail)))
      refine wpQuiet_nil ?_
      refine all1 ?_
      simp only [pickOps, nth]
      go_wp2_with fail
      refine (itoa_is 16 ⟨#[49, 54]⟩ _ (by decide) (T3.out.laid HL.out) (by kernel_rfl)).mono ?_
      rintro e u4 ⟨rfl, hb⟩
      have HB := Lib.hid hb
      have T4 := Lib.hid (T3.out.bel hb)
      have A4 := Lib.hid (A3.out.bel hb)
      clear hb
      go_wp2_with fail
      refine ⟨Ke.below _ HB.out, ?_⟩
      clear HB
      refine rest_step [] [15] (by kernel_rfl) (fun _ _ d _ _ h => by cases d <;> exact h) (by kernel_rfl) rfl (by kernel_rfl) (by decide) rfl ?_
      simp only [pickOps, nth]
      (repeat (go_big_quiet_step (fail)))
      refine wpQuiet_nil ?_
      refine all1 ?_
      simp only [pickOps, nth]
      go_wp2_with fail
      refine ⟨Ke.below _ (bel1 _ _), ?_⟩
      refine rest_step [] [16] (by kernel_rfl) (fun _ _ d _ _ h => by cases d <;> exact h) (by kernel_rfl) rfl (by kernel_rfl) (by decide) rfl ?_
      simp only [pickOps, nth]
      refine wpQuiet_nil ?_
      refine all1 ?_
      simp only [pickOps, nth]
      go_wp2_with fail
      refine (put_st T4.out [⟨#[83, 89, 83]⟩, ⟨#[84]⟩, ⟨#[49, 54]⟩] _ rfl 3 rfl (by decide)).mono ?_
      rintro e u ⟨rfl, v6, s6, k6⟩
      have HK6 : Hid (Ke (· = w1.heap.size) _ u) := Lib.hid (k6.mono (fun i _ h => by rcases h with h | h; exact h; cases h))
      have S6 := Lib.hid s6
      have f1 : True := trivial
      have c4 : u.cell? ⟨w1.heap.size, 0, none⟩ = some v6 := (s6.L.at'.cell 0).trans rfl
      clear k6 s6 f0 f1
      go_wp2_with fail
      refine ⟨HK6.out, rest_end [] (by kernel_rfl) (fun _ _ d _ _ h => by cases d <;> exact h) (by kernel_rfl) (by kernel_rfl) rfl ?_⟩
      simp only [pickOps, nth]
      refine wpQuiet_nil ?_
      go_wp2_with fail
      refine (join_walk S6.out.L (by decide) (by decide) (by decide) ⟨#[83, 89, 83, 32, 84, 32, 49, 54]⟩ (by kernel_rfl)).mono ?_
      rintro e x3 ⟨rfl, hb12⟩
      have B12 := Lib.hid (bel_then S6.out.B hb12)
      clear hb12
      go_wp2_with fail
      go_ret2
      exact ⟨rfl, B12.out⟩
    · skip
      simp only [pickOps, nth]
      go_wp2_with fail
      refine (cond_is 7 ⟨#[84]⟩ _ (by decide) (by kernel_rfl)).mono ?_
      rintro e u2 ⟨rfl, hb⟩
      have HB := Lib.hid hb
      have T2 := Lib.hid (T1.out.bel hb)
      clear hb
      go_wp2_with fail
      refine ⟨Ke.below _ HB.out, ?_⟩
      clear HB
      refine rest_step [] [1, 14] (by kernel_rfl) (fun _ _ d _ _ h => by cases d <;> exact h) (by kernel_rfl) rfl (by kernel_rfl) (by decide) rfl ?_
      simp only [pickOps, nth]
      (repeat (go_big_quiet_step (fail)))
      refine wpQuiet_nil ?_
      refine all2 ?_ ?_
      · skip
        simp only [pickOps, nth]
        go_wp2_with fail
        refine ⟨Ke.below _ (bel1 _ _), ?_⟩
        obtain ⟨u3, hu⟩ : ∃ u', u' = u2.alloc (.cells #[.string ⟨#[84, 82, 65, 80]⟩, .string ⟨#[83, 89, 83]⟩] 9) := ⟨_, rfl⟩
        have T3 := Lib.hid (show St w u3 _ _ _ _ _ _ by rw [hu]; exact T2.out.bel (bel1 _ _))
        have A3 := Lib.hid (show At u3 u2.heap.size #[.string ⟨#[84, 82, 65, 80]⟩, .string ⟨#[83, 89, 83]⟩] 9 by rw [hu]; exact At.new _ _ _)
        have NA := Lib.hid (show ¬ (u2.heap.size = w1.heap.size) by have := T2.out.L.at'.lt; omega)
        rw [← hu]
        clear hu
        have r0 := A3.out.laterCell (G := (· = w1.heap.size)) NA.out 1 (v := .string ⟨#[83, 89, 83]⟩) rfl
        refine rest_step [6, 7] [14] (by kernel_rfl) (fun _ _ d _ _ h => by cases d <;> exact h) (by kernel_rfl) rfl (by kernel_rfl) (by decide) rfl ?_
        simp only [pickOps, nth]
        (repeat (go_big_quiet_step (fail)))
        refine wpQuiet_nil ?_
        clear r0
        refine all1 ?_
        simp only [pickOps, nth]
        go_wp2_with fail
        refine (itoa_is 16 ⟨#[49, 54]⟩ _ (by decide) (T3.out.laid HL.out) (by kernel_rfl)).mono ?_
        rintro e u4 ⟨rfl, hb⟩
        have HB := Lib.hid hb
        have T4 := Lib.hid (T3.out.bel hb)
        have A4 := Lib.hid (A3.out.bel hb)
        clear hb
        go_wp2_with fail
        refine ⟨Ke.below _ HB.out, ?_⟩
        clear HB
        refine rest_step [] [15] (by kernel_rfl) (fun _ _ d _ _ h => by cases d <;> exact h) (by kernel_rfl) rfl (by kernel_rfl) (by decide) rfl ?_
        simp only [pickOps, nth]
        (repeat (go_big_quiet_step (fail)))
        refine wpQuiet_nil ?_
        refine all1 ?_
        simp only [pickOps, nth]
        go_wp2_with fail
        refine ⟨Ke.below _ (bel1 _ _), ?_⟩
        refine rest_step [] [16] (by kernel_rfl) (fun _ _ d _ _ h => by cases d <;> exact h) (by kernel_rfl) rfl (by kernel_rfl) (by decide) rfl ?_
        simp only [pickOps, nth]
        refine wpQuiet_nil ?_
        refine all1 ?_
        simp only [pickOps, nth]
        go_wp2_with fail
        refine (put_st T4.out [⟨#[83, 89, 83]⟩, ⟨#[84]⟩, ⟨#[49, 54]⟩] _ rfl 3 rfl (by decide)).mono ?_
        rintro e u ⟨rfl, v6, s6, k6⟩
        have HK6 : Hid (Ke (· = w1.heap.size) _ u) := Lib.hid (k6.mono (fun i _ h => by rcases h with h | h; exact h; cases h))
        have S6 := Lib.hid s6
        have f1 : True := trivial
        have c4 : u.cell? ⟨w1.heap.size, 0, none⟩ = some v6 := (s6.L.at'.cell 0).trans rfl
        clear k6 s6 f0 f1
        go_wp2_with fail
        refine ⟨HK6.out, rest_end [] (by kernel_rfl) (fun _ _ d _ _ h => by cases d <;> exact h) (by kernel_rfl) (by kernel_rfl) rfl ?_⟩
        simp only [pickOps, nth]
        refine wpQuiet_nil ?_
        go_wp2_with fail
        refine (join_walk S6.out.L (by decide) (by decide) (by decide) ⟨#[83, 89, 83, 32, 84, 32, 49, 54]⟩ (by kernel_rfl)).mono ?_
        rintro e x3 ⟨rfl, hb12⟩
        have B12 := Lib.hid (bel_then S6.out.B hb12)
        clear hb12
        go_wp2_with fail
        go_ret2
        exact ⟨rfl, B12.out⟩
      · skip
        simp only [pickOps, nth]
        go_wp2_with fail
        refine (itoa_is 16 ⟨#[49, 54]⟩ _ (by decide) (T2.out.laid HL.out) (by kernel_rfl)).mono ?_
        rintro e u3 ⟨rfl, hb⟩
        have HB := Lib.hid hb
        have T3 := Lib.hid (T2.out.bel hb)
        clear hb
        go_wp2_with fail
        refine ⟨Ke.below _ HB.out, ?_⟩
        clear HB
        refine rest_step [] [1] (by kernel_rfl) (fun _ _ d _ _ h => by cases d <;> exact h) (by kernel_rfl) rfl (by kernel_rfl) (by decide) rfl ?_
        simp only [pickOps, nth]
        (repeat (go_big_quiet_step (fail)))
        refine wpQuiet_nil ?_
        refine all1 ?_
        simp only [pickOps, nth]
        go_wp2_with fail
        refine ⟨Ke.below _ (bel1 _ _), ?_⟩
        obtain ⟨u4, hu⟩ : ∃ u', u' = u3.alloc (.cells #[.string ⟨#[84, 82, 65, 80]⟩, .string ⟨#[83, 89, 83]⟩] 9) := ⟨_, rfl⟩
        have T4 := Lib.hid (show St w u4 _ _ _ _ _ _ by rw [hu]; exact T3.out.bel (bel1 _ _))
        have A4 := Lib.hid (show At u4 u3.heap.size #[.string ⟨#[84, 82, 65, 80]⟩, .string ⟨#[83, 89, 83]⟩] 9 by rw [hu]; exact At.new _ _ _)
        have NA := Lib.hid (show ¬ (u3.heap.size = w1.heap.size) by have := T3.out.L.at'.lt; omega)
        rw [← hu]
        clear hu
        have r0 := A4.out.laterCell (G := (· = w1.heap.size)) NA.out 1 (v := .string ⟨#[83, 89, 83]⟩) rfl
        refine rest_step [6, 7] [15] (by kernel_rfl) (fun _ _ d _ _ h => by cases d <;> exact h) (by kernel_rfl) rfl (by kernel_rfl) (by decide) rfl ?_
        simp only [pickOps, nth]
        (repeat (go_big_quiet_step (fail)))
        refine wpQuiet_nil ?_
        clear r0
        refine all1 ?_
        simp only [pickOps, nth]
        go_wp2_with fail
        refine ⟨Ke.below _ (bel1 _ _), ?_⟩
        refine rest_step [] [16] (by kernel_rfl) (fun _ _ d _ _ h => by cases d <;> exact h) (by kernel_rfl) rfl (by kernel_rfl) (by decide) rfl ?_
        simp only [pickOps, nth]
        refine wpQuiet_nil ?_
        refine all1 ?_
        simp only [pickOps, nth]
        go_wp2_with fail
        refine (put_st T4.out [⟨#[83, 89, 83]⟩, ⟨#[84]⟩, ⟨#[49, 54]⟩] _ rfl 3 rfl (by decide)).mono ?_
        rintro e u ⟨rfl, v6, s6, k6⟩
        have HK6 : Hid (Ke (· = w1.heap.size) _ u) := Lib.hid (k6.mono (fun i _ h => by rcases h with h | h; exact h; cases h))
        have S6 := Lib.hid s6
        have f1 : True := trivial
        have c4 : u.cell? ⟨w1.heap.size, 0, none⟩ = some v6 := (s6.L.at'.cell 0).trans rfl
        clear k6 s6 f0 f1
        go_wp2_with fail
        refine ⟨HK6.out, rest_end [] (by kernel_rfl) (fun _ _ d _ _ h => by cases d <;> exact h) (by kernel_rfl) (by kernel_rfl) rfl ?_⟩
        simp only [pickOps, nth]
        refine wpQuiet_nil ?_
        go_wp2_with fail
        refine (join_walk S6.out.L (by decide) (by decide) (by decide) ⟨#[83, 89, 83, 32, 84, 32, 49, 54]⟩ (by kernel_rfl)).mono ?_
        rintro e x3 ⟨rfl, hb12⟩
        have B12 := Lib.hid (bel_then S6.out.B hb12)
        clear hb12
        go_wp2_with fail
        go_ret2
        exact ⟨rfl, B12.out⟩

end Go.Proofs.YtmnmbpenonodiaaDoor
