/- The walk of KeySteps. -/
import Derived.Test.YtflmapokljiljaaKeyKnown
import Derived.BigQuiet
import Derived.WalkSmall
namespace Go.Proofs.Ytflmapokljiljaa
open Go.RowKit

theorem step_same (k b : Int) (w : World) (hb0 : 0 ≤ b) (hb1 : b < 256) :
    Calls Try.prog 12 #[.int .u32 k, .int .u8 b] w fun e w' => e = .returned (.int .u32 (Key.step k b)) ∧ w' = w :=
  (step_any k b w hb0 hb1).mono fun _ _ ⟨he, hw⟩ => ⟨he, hw.symm⟩

set_option maxHeartbeats 1000000 in
theorem steps_walk (k : Int) (a b : Option Addr) (ca cb : Nat) (la lb : List Int) (w : World) (hk : 0 ≤ k ∧ k < 4294967296) (ha : RdI .u8 w a ca la) (hb : RdI .u8 w b cb lb) :
    Calls Try.prog 4 #[.int .u32 k, .slice a la.length ca, .slice b lb.length cb] w fun e w' => e = .returned (.bool true) ∧ Below w.heap.size w w' := by
  have hla := ha.len
  have hlb := hb.len
  have HA := Lib.hid ha; clear ha
  have HB := Lib.hid hb; clear hb
  by_cases h1 : la.length ≤ 3000
  · by_cases h2 : lb.length ≤ 3000
    · obtain ⟨bb, oo, hat, hcell⟩ := HA.out.cells
      have HAt := Lib.hid hat; clear hat
      have HC := Lib.hid hcell; clear hcell
      have HBy := Lib.hid HA.out.u8
      go_enter Try.func4, Try.ntmps4
      go_wp2_with fail
      go_loopw [7, 8] (fun n i wr => ∃ j : Nat, j ≤ la.length ∧ i = .int .i64 j ∧ n = .int .u32 (Key.on k (la.take j)) ∧ Below w.heap.size w wr)
        (fun _ i _ => la.length - (intOf i).toNat)
      case atStart => exact ⟨0, Nat.zero_le _, rfl, rfl, Below.refl _ _⟩
      case round =>
        obtain ⟨j, hj, rfl, rfl, hbel⟩ := hrel
        by_cases hlt : j < la.length
        · obtain ⟨rfl, hbl⟩ := HAt.out (by omega)
          have hx := HBy.out j hlt
          have hc : wr.cell? ⟨bb, oo + j, none⟩ = some (.int .u8 (la.getD j 0)) := (hbel.cell (p := ⟨bb, oo + j, none⟩) hbl).trans (HC.out j hlt)
          have hs := Lib.hid (take_on k la j hlt)
          obtain ⟨x, hxe⟩ : ∃ x, x = la.getD j 0 := ⟨_, rfl⟩
          rw [← hxe] at hc hx hs
          clear hxe
          have hN := Key.on_bd (la.take j) k hk.1 hk.2
          obtain ⟨N, hNe⟩ : ∃ N, N = Key.on k (la.take j) := ⟨_, rfl⟩
          rw [← hNe] at hs hN
          rw [← hNe]
          have HNe := Lib.hid hNe; clear hNe
          have i1 : (0 : Int) ≤ (j : Int) := by omega
          have i2 : (j : Int) < (la.length : Int) := by omega
          have hcmp : (Key.step N x != (16777619 * N + x + 1) % 4294967296) = false := by
            rw [bne_eq_false_iff_eq]; unfold Key.step; omega
          go_wp2_with fail
          go_quiet ((go_at_call 12; exact Calls.quiet_of_same (step_same _ _ _ hx.1 hx.2)))
          go_wp2_with fail
          refine (step_any _ _ _ hx.1 hx.2).mono ?_
          rintro e w' ⟨rfl, rfl⟩
          go_wp2
          go_roundw
          case rel => exact ⟨j + 1, by omega, by go_num, by rw [hs.out], below_drewN hbel _⟩
          case measure => simp [intOf]; omega
        · rw [List.take_of_length_le (by omega)]
          have HA2 := Lib.hid (HA.out.below hbel (Nat.le_refl _))
          have HB2 := Lib.hid (HB.out.below hbel (Nat.le_refl _))
          have hsz := hbel.size
          go_wp2_with fail
          refine (on_any _ _ _ _ _ HA2.out).mono ?_
          rintro e w1 ⟨rfl, hb1⟩
          have HA3 := Lib.hid (HA2.out.below hb1 (Nat.le_refl _))
          have HB3 := Lib.hid (HB2.out.below hb1 (Nat.le_refl _))
          have hs1 := hb1.size
          go_wp2_with fail
          refine (same_any _ _ _ _ _ _ _ HA3.out HB3.out).mono ?_
          rintro e w2 ⟨rfl, hb2⟩
          have HA4 := Lib.hid (HA3.out.below hb2 (Nat.le_refl _))
          have HB4 := Lib.hid (HB3.out.below hb2 (Nat.le_refl _))
          have hs2 := hb2.size
          go_wp2_with fail
          refine (refkey_any _ _ _ _ HA4.out).mono ?_
          rintro e w' ⟨rfl, rfl⟩
          go_wp2_with fail
          refine (refkey_any _ _ _ _ HB4.out).mono ?_
          rintro e w' ⟨rfl, rfl⟩
          go_wp2_with fail
          refine (known_any _).mono ?_
          rintro e w3 ⟨rfl, hb3⟩
          go_wp2
          go_ret
          exact ⟨rfl, ((hbel.trans (hb1.mono hsz)).trans (hb2.mono (by omega))).trans (hb3.mono (by omega))⟩
    · go_enter Try.func4, Try.ntmps4
      go_wp2_with fail
      refine (known_any _).mono ?_
      rintro e w3 ⟨rfl, hb3⟩
      go_wp2
      go_ret
      exact ⟨rfl, hb3⟩
  · go_enter Try.func4, Try.ntmps4
    go_wp2_with fail
    refine (known_any _).mono ?_
    rintro e w3 ⟨rfl, hb3⟩
    go_wp2
    go_ret
    exact ⟨rfl, hb3⟩

theorem steps_std (k : Int) (a : Option Addr) (ca : Nat) (la : List Int) (b : Option Addr) (cb : Nat) (lb : List Int) (w : World) (hk : IntKind.u32.min ≤ k ∧ k ≤ IntKind.u32.max) (ha : RdI .u8 w a ca la) (hb : RdI .u8 w b cb lb) :
    Calls Try.prog 4 #[.int .u32 k, .slice a la.length ca, .slice b lb.length cb] w fun e w' => e = .returned (.bool true) ∧ Below w.heap.size w w' :=
  steps_walk k a b ca cb la lb w (bd_u32 hk) ha hb

end Go.Proofs.Ytflmapokljiljaa
