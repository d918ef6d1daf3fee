/- The walk of KeyOf. -/
import Derived.Test.YtflmapokljiljaaKeyKnown
import Derived.Deep.RegionWith
namespace Go.Proofs.Ytflmapokljiljaa
open Go.RowKit

theorem join_as (a : Option Addr) (ls : List (List Int)) (cap : Nat) (w : World) (hr : RdII .u8 w a cap ls) (all : List Int) (h : ls.flatten = all) (hsum : all.length ≤ 3000) :
    Calls Try.prog 9 #[.slice a ls.length cap] w (RetBytes w all) := by
  subst h; exact join_any a ls cap w hr (by omega)
theorem of_as (a : Option Addr) (ls : List (List Int)) (cap : Nat) (w : World) (hr : RdII .u8 w a cap ls) (all : List Int) (h : ls.flatten = all) :
    Calls Try.prog 10 #[.slice a ls.length cap] w fun e w' => e = .returned (.int .u32 (Key.of all)) ∧ Below w.heap.size w w' := by
  subst h; exact of_any a ls cap w hr

set_option maxHeartbeats 1000000 in
theorem of_walk (a : Option Addr) (c : Nat) (ls : List (List Int)) (w : World) (hr : RdII .u8 w a c ls) :
    Calls Try.prog 3 #[.slice a ls.length c] w fun e w' => e = .returned (.bool true) ∧ Below w.heap.size w w' := by
  have HR := Lib.hid hr; clear hr
  by_cases hm : much ls = true
  · go_enter Try.func3, Try.ntmps3
    go_wp2_with fail
    refine (much_any _ _ _ _ HR.out).mono ?_
    rintro e w' ⟨rfl, rfl⟩
    go_wp2_with fail
    refine (known_any _).mono ?_
    rintro e w3 ⟨rfl, hb3⟩
    go_wp2
    go_ret
    exact ⟨rfl, hb3⟩
  · have hm' : much ls = false := by simpa using hm
    have hsum : ls.flatten.length ≤ 3000 := by unfold much at hm; simp only [decide_eq_true_eq] at hm; omega
    clear hm
    obtain ⟨all, hall⟩ : ∃ all, ls.flatten = all := ⟨_, rfl⟩
    rw [hall] at hsum
    have HA := Lib.hid hall; clear hall
    go_enter Try.func3, Try.ntmps3
    go_wp2_with fail
    refine (much_any _ _ _ _ HR.out).mono ?_
    rintro e w' ⟨rfl, rfl⟩
    go_wp2_with fail
    refine (join_as _ _ _ _ HR.out all HA.out hsum).mono ?_
    rintro e w1 ⟨x, cx, rfl, hx, hb1⟩
    have HX := Lib.hid hx; clear hx
    have HR1 := Lib.hid (HR.out.below hb1 (Nat.le_refl _))
    go_wp2_with fail
    refine (of_as _ _ _ _ HR1.out all HA.out).mono ?_
    rintro e w2 ⟨rfl, hb2⟩
    have HX2 := Lib.hid (HX.out.below hb2 (Nat.le_refl _)).drew
    have HR2 := Lib.hid (HR1.out.below hb2 (Nat.le_refl _)).drew
    go_wp2
    go_region_with (first
      | (go_at_call 11; refine (refkey_any _ _ _ _ HX2.out).mono ?_; rintro e w' ⟨rfl, rfl⟩)
      | (go_at_call 10; refine (of_any1 _ _ _ _ HX2.out).mono ?_; rintro e w3 ⟨rfl, hb3⟩; have HX3 := Lib.hid (HX2.out.below hb3 (Nat.le_refl _)); have HR3 := Lib.hid (HR2.out.below hb3 (Nat.le_refl _)); have cv3 := run_str_of (P := Try.prog) HX3.out Try.underlying25 Try.underlying5 Try.underlying9)
      | (go_at_call 9; refine (join_as _ _ _ _ HR3.out all HA.out hsum).mono ?_; rintro e w4 ⟨y, cy, rfl, hy, hb4⟩; have HX4 := Lib.hid (HX3.out.below hb4 (Nat.le_refl _)); have cv4 := run_str_of (P := Try.prog) HX4.out Try.underlying25 Try.underlying5 Try.underlying9; have cv5 := run_str_of (P := Try.prog) hy Try.underlying25 Try.underlying5 Try.underlying9; clear hy)
      | (go_at_call 8; refine (known_any _).mono ?_; rintro e w5 ⟨rfl, hb5⟩))
    all_goals
      go_wp2
      go_ret
      exact ⟨rfl, bel_then (bel_then (bel_then (bel_then hb1 hb2).drew hb3) hb4) hb5⟩

end Go.Proofs.Ytflmapokljiljaa
