/- The reference's 'May', of whatever instruction. -/
import Derived.Test.YtmnmbpenonodiaaDoorRefMay0
import Derived.Test.YtmnmbpenonodiaaDoorRefMay1
import Derived.Test.YtmnmbpenonodiaaDoorRefMay2
import Derived.Test.YtmnmbpenonodiaaDoorRefMay3
import Derived.Test.YtmnmbpenonodiaaDoorRefMay4
import Derived.Test.YtmnmbpenonodiaaDoorRefMay5
import Derived.Test.YtmnmbpenonodiaaDoorRefMay6
namespace Go.Proofs.YtmnmbpenonodiaaDoor
set_option linter.unusedVariables false
set_option linter.unusedSimpArgs false
open Go.RowKit

theorem letters_no (k : Int) (h : ¬ (0 ≤ k ∧ k ≤ 6)) : letters k = ⟨#[]⟩ := by
  unfold letters
  rw [if_neg (by omega), if_neg (by omega), if_neg (by omega), if_neg (by omega), if_neg (by omega), if_neg (by omega), if_neg (by omega)]

set_option maxRecDepth 20000 in
set_option maxHeartbeats 4000000 in
theorem may_no (i : Ins) (w : World) (h : ¬ (0 ≤ i.form ∧ i.form ≤ 6)) : MayIs i False w := by
  unfold MayIs
  have HN : Hid (∀ w, Calls Tryd.prog 23 #[.int .i64 i.form] w fun e w' => e = .returned (.string ⟨#[]⟩) ∧ Below w.heap.size w w') := Lib.hid (fun w => by have hh := names_walk i.form w; rw [letters_no _ h] at hh; exact hh)
  clear h
  have I0 := InsAt.new w i
  obtain ⟨form, u, v, a, b, c, op, im, off, cond, n⟩ := i
  go_enter Tryd.func13, Tryd.ntmps13
  go_wp2_with fail
  refine (HN.out _).mono ?_
  rintro e w1 ⟨rfl, hb⟩
  have HB : Hid (Below w.heap.size w w1) := Lib.hid (bel_then ((Below.refl _ _).alloc (Nat.le_refl _) _) hb)
  have I1 := I0.below hb I0.lt
  obtain ⟨c0, c1, c2, c3, c4, c5, c6, c7, c8, c9, c10⟩ := I1.all
  clear I0 I1 hb
  (dsimp only ; repeat' (first | ((with_reducible refine at_parts ?_) ; show wpList _ (List.toArray (_ :: _ :: _ :: _ :: _ :: _ :: _ :: _ :: _ :: _ :: _ :: _ :: _ :: _ :: _ :: _ :: _ :: _ :: _ :: _ :: _ :: _ :: _ :: _ :: _ :: _ :: _ :: _ :: _ :: _ :: _ :: _ :: _ :: _ :: _ :: _ :: _ :: _ :: _ :: _ :: _ :: _ :: _ :: _ :: _ :: _ :: _ :: _ :: _ :: _ :: _ :: _ :: _ :: _ :: _ :: _ :: _ :: _ :: _ :: _ :: _ :: _ :: _ :: _ :: _ :: _ :: _ :: _ :: _ :: _ :: _ :: _ :: _ :: _ :: _ :: _ :: _ :: _ :: _ :: _ :: _ :: _ :: _ :: _ :: _ :: _ :: _ :: _ :: _ :: _ :: _ :: _ :: _ :: _ :: _ :: _ :: _ :: _ :: _ :: _ :: [])) _ (_ :: _ :: _ :: _ :: _ :: _ :: _ :: _ :: _ :: _ :: _ :: _ :: _ :: _ :: _ :: _ :: _ :: _ :: _ :: _ :: _ :: _ :: _ :: _ :: _ :: _ :: _ :: _ :: _ :: _ :: _ :: _ :: _ :: _ :: _ :: _ :: _ :: _ :: _ :: _ :: _ :: _ :: _ :: _ :: _ :: _ :: _ :: _ :: _ :: _ :: _ :: _ :: _ :: _ :: _ :: _ :: _ :: _ :: _ :: _ :: _ :: _ :: _ :: _ :: _ :: _ :: _ :: _ :: _ :: _ :: _ :: _ :: _ :: _ :: _ :: _ :: _ :: _ :: _ :: _ :: _ :: _ :: _ :: _ :: _ :: _ :: _ :: _ :: _ :: _ :: _ :: _ :: _ :: _ :: _ :: _ :: _ :: _ :: _ :: _ :: []) _ _) | ((with_reducible refine at_move_call ?_) ; refine and_hasM rfl rfl (fun w => hasL _ _ true (by decide) (by decide) w) (by intros; kernel_rfl) (by intros; kernel_rfl) (by intros; kernel_rfl) (by intros; kernel_rfl) (by intros; kernel_rfl) (by intros; kernel_rfl) (by intros; kernel_rfl) (by intros; kernel_rfl) (by intros; kernel_rfl) ?_ ; intro v1 v2 v3) | go_values | go_big_skip | go_big_want | go_big_guard | ((with_reducible refine at_calls ?_) ; (first | (refine calls_pure (in_walk _ _ _ _) ?_) | (refine calls_pure (hasL _ _ false (by decide) (by decide) _) ?_) | (refine calls_pure (hasL _ _ true (by decide) (by decide) _) ?_)) ; dsimp only) | go_step | go_upon | go_back))
  go_ret
  refine ⟨_, rfl, ?_, HB.out⟩
  simp

theorem MayIs.iff {i : Ins} {X Y : Prop} {w : World} (h : MayIs i X w) (hx : X ↔ Y) : MayIs i Y w := h.mono fun e w' ⟨r, he, hr, hb⟩ => ⟨r, he, hr.trans hx, hb⟩

set_option maxHeartbeats 4000000 in
theorem may_all (i : Ins) (w : World) : MayIs i i.May w := by
  by_cases h : 0 ≤ i.form ∧ i.form ≤ 6
  · obtain ⟨form, u, v, a, b, c, op, im, off, cond, n⟩ := i
    simp only [] at h
    have hs : form = 0 ∨ form = 1 ∨ form = 2 ∨ form = 3 ∨ form = 4 ∨ form = 5 ∨ form = 6 := by omega
    clear h
    rcases hs with rfl | rfl | rfl | rfl | rfl | rfl | rfl
    · exact (may_0 u v a b c op im off cond n w).iff ⟨fun h => by ( constructor <;> simp only [] at * <;> first | omega | (intros; first | omega | (simp_all; done) | (simp_all; omega))), fun h => by ( have h0 := h.reg ; have h1 := h.imm ; have h2 := h.mem ; have h4 := h.jump ; have h5 := h.to ; have h6 := h.sys ; have h7 := h.odd ; have h8 := h.mov ; obtain ⟨_, ha, hb, hc, ho, hi, hd, hn, _, _, _, _, _, _, _, _⟩ := h ; simp only [] at * ; simp at h0 h1 h2 h4 h5 h6 h7 h8 ; simp_all)⟩
    · exact (may_1 u v a b c op im off cond n w).iff ⟨fun h => by ( constructor <;> simp only [] at * <;> first | omega | (intros; first | omega | (simp_all; done) | (simp_all; omega))), fun h => by ( have h0 := h.reg ; have h1 := h.imm ; have h2 := h.mem ; have h4 := h.jump ; have h5 := h.to ; have h6 := h.sys ; have h7 := h.odd ; have h8 := h.mov ; obtain ⟨_, ha, hb, hc, ho, hi, hd, hn, _, _, _, _, _, _, _, _⟩ := h ; simp only [] at * ; simp at h0 h1 h2 h4 h5 h6 h7 h8 ; simp_all)⟩
    · exact (may_2 u v a b c op im off cond n w).iff ⟨fun h => by ( constructor <;> simp only [] at * <;> first | omega | (intros; first | omega | (simp_all; done) | (simp_all; omega))), fun h => by ( have h0 := h.reg ; have h1 := h.imm ; have h2 := h.mem ; have h4 := h.jump ; have h5 := h.to ; have h6 := h.sys ; have h7 := h.odd ; have h8 := h.mov ; obtain ⟨_, ha, hb, hc, ho, hi, hd, hn, _, _, _, _, _, _, _, _⟩ := h ; simp only [] at * ; simp at h0 h1 h2 h4 h5 h6 h7 h8 ; simp_all)⟩
    · exact (may_3 u v a b c op im off cond n w).iff ⟨fun h => by ( constructor <;> simp only [] at * <;> first | omega | (intros; first | omega | (simp_all; done) | (simp_all; omega))), fun h => by ( have h0 := h.reg ; have h1 := h.imm ; have h2 := h.mem ; have h4 := h.jump ; have h5 := h.to ; have h6 := h.sys ; have h7 := h.odd ; have h8 := h.mov ; obtain ⟨_, ha, hb, hc, ho, hi, hd, hn, _, _, _, _, _, _, _, _⟩ := h ; simp only [] at * ; simp at h0 h1 h2 h4 h5 h6 h7 h8 ; simp_all)⟩
    · exact (may_4 u v a b c op im off cond n w).iff ⟨fun h => by ( constructor <;> simp only [] at * <;> first | omega | (intros; first | omega | (simp_all; done) | (simp_all; omega))), fun h => by ( have h0 := h.reg ; have h1 := h.imm ; have h2 := h.mem ; have h4 := h.jump ; have h5 := h.to ; have h6 := h.sys ; have h7 := h.odd ; have h8 := h.mov ; obtain ⟨_, ha, hb, hc, ho, hi, hd, hn, _, _, _, _, _, _, _, _⟩ := h ; simp only [] at * ; simp at h0 h1 h2 h4 h5 h6 h7 h8 ; simp_all)⟩
    · exact (may_5 u v a b c op im off cond n w).iff ⟨fun h => by ( constructor <;> simp only [] at * <;> first | omega | (intros; first | omega | (simp_all; done) | (simp_all; omega))), fun h => by ( have h0 := h.reg ; have h1 := h.imm ; have h2 := h.mem ; have h4 := h.jump ; have h5 := h.to ; have h6 := h.sys ; have h7 := h.odd ; have h8 := h.mov ; obtain ⟨_, ha, hb, hc, ho, hi, hd, hn, _, _, _, _, _, _, _, _⟩ := h ; simp only [] at * ; simp at h0 h1 h2 h4 h5 h6 h7 h8 ; simp_all)⟩
    · exact (may_6 u v a b c op im off cond n w).iff ⟨fun h => by ( constructor <;> simp only [] at * <;> first | omega | (intros; first | omega | (simp_all; done) | (simp_all; omega))), fun h => by ( have h0 := h.reg ; have h1 := h.imm ; have h2 := h.mem ; have h4 := h.jump ; have h5 := h.to ; have h6 := h.sys ; have h7 := h.odd ; have h8 := h.mov ; obtain ⟨_, ha, hb, hc, ho, hi, hd, hn, _, _, _, _, _, _, _, _⟩ := h ; simp only [] at * ; simp at h0 h1 h2 h4 h5 h6 h7 h8 ; simp_all)⟩
  · exact (may_no i w h).iff ⟨False.elim, fun hm => h hm.form⟩

end Go.Proofs.YtmnmbpenonodiaaDoor
