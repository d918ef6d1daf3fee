/- The reference's 'May', form 4. -/
import Derived.Test.YtmnmbpenonodiaaDoorRefMayK
namespace Go.Proofs.YtmnmbpenonodiaaDoor
set_option linter.unusedVariables false
set_option linter.unusedSimpArgs false
open Go.RowKit

set_option maxRecDepth 20000 in
set_option maxHeartbeats 40000000 in
theorem may_4 (u v : Bool) (a b c op im off cond n : Int) (w : World) : MayIs ⟨4, u, v, a, b, c, op, im, off, cond, n⟩ (u = false ∧ a = 0 ∧ b = 0 ∧ c = 0 ∧ op = 0 ∧ im = 0 ∧ n = 0 ∧ (0 ≤ cond ∧ cond ≤ 15) ∧ (-8388608 ≤ off ∧ off ≤ 8388607)) w := by
  unfold MayIs
  have HN : Hid (∀ w, Calls Tryd.prog 23 #[.int .i64 4] w fun e w' => e = .returned (.string ⟨#[118, 100, 102]⟩) ∧ Below w.heap.size w w') := Lib.hid (fun w => names_walk 4 w)
  all_goals
    (have I0 := InsAt.new w ⟨4, u, v, a, b, c, op, im, off, cond, n⟩
     go_enter Tryd.func13, Tryd.ntmps13
     go_wp2_with fail
     refine (HN.out _).mono ?_
     rintro e w1 ⟨rfl, hb⟩
     have HB : Hid (Below w.heap.size w w1) := Lib.hid (bel_then ((Below.refl _ _).alloc (Nat.le_refl _) _) hb)
     have I1 := I0.below hb I0.lt
     obtain ⟨c0, c1, c2, c3, c4, c5, c6, c7, c8, c9, c10⟩ := I1.all
     clear I0 I1 hb
     (dsimp only ; repeat' (first | ((with_reducible refine at_parts ?_) ; show wpList _ (List.toArray (_ :: _ :: _ :: _ :: _ :: _ :: _ :: _ :: _ :: _ :: _ :: _ :: _ :: _ :: _ :: _ :: _ :: _ :: _ :: _ :: _ :: _ :: _ :: _ :: _ :: _ :: _ :: _ :: _ :: _ :: _ :: _ :: _ :: _ :: _ :: _ :: _ :: _ :: _ :: _ :: _ :: _ :: _ :: _ :: _ :: _ :: _ :: _ :: _ :: _ :: _ :: _ :: _ :: _ :: _ :: _ :: _ :: _ :: _ :: _ :: _ :: _ :: _ :: _ :: _ :: _ :: _ :: _ :: _ :: _ :: _ :: _ :: _ :: _ :: _ :: _ :: _ :: _ :: _ :: _ :: _ :: _ :: _ :: _ :: _ :: _ :: _ :: _ :: _ :: _ :: _ :: _ :: _ :: _ :: _ :: _ :: _ :: _ :: _ :: _ :: [])) _ (_ :: _ :: _ :: _ :: _ :: _ :: _ :: _ :: _ :: _ :: _ :: _ :: _ :: _ :: _ :: _ :: _ :: _ :: _ :: _ :: _ :: _ :: _ :: _ :: _ :: _ :: _ :: _ :: _ :: _ :: _ :: _ :: _ :: _ :: _ :: _ :: _ :: _ :: _ :: _ :: _ :: _ :: _ :: _ :: _ :: _ :: _ :: _ :: _ :: _ :: _ :: _ :: _ :: _ :: _ :: _ :: _ :: _ :: _ :: _ :: _ :: _ :: _ :: _ :: _ :: _ :: _ :: _ :: _ :: _ :: _ :: _ :: _ :: _ :: _ :: _ :: _ :: _ :: _ :: _ :: _ :: _ :: _ :: _ :: _ :: _ :: _ :: _ :: _ :: _ :: _ :: _ :: _ :: _ :: _ :: _ :: _ :: _ :: _ :: _ :: []) _ _) | ((with_reducible refine at_move_call ?_) ; refine and_hasM rfl rfl (fun w => hasL _ _ true (by decide) (by decide) w) (by intros; kernel_rfl) (by intros; kernel_rfl) (by intros; kernel_rfl) (by intros; kernel_rfl) (by intros; kernel_rfl) (by intros; kernel_rfl) (by intros; kernel_rfl) (by intros; kernel_rfl) (by intros; kernel_rfl) ?_ ; intro v1 v2 v3) | go_values | go_big_skip | go_big_want | go_big_guard | ((with_reducible refine at_calls ?_) ; (first | (refine calls_pure (in_walk _ _ _ _) ?_) | (refine calls_pure (hasL _ _ false (by decide) (by decide) _) ?_) | (refine calls_pure (hasL _ _ true (by decide) (by decide) _) ?_)) ; dsimp only) | go_step | go_upon | go_back))
     all_goals go_ret
     all_goals refine ⟨_, rfl, ?_, HB.out⟩
     (all_goals (clear c0 c1 c2 c3 c4 c5 c6 c7 c8 c9 c10 HN HB ; first | omega | (simp at *; done) | (simp at *; omega) | (simp_all; done) | (simp_all; omega))))

end Go.Proofs.YtmnmbpenonodiaaDoor
