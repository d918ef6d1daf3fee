/- Contract: the reference's Key. -/
import Derived.Test.YtfnibpkojhgflaaFaceOut0
import Derived.Test.YtfnibpkojhgflaaLibA
namespace Go.Proofs.Ytfnibpkojhgflaa
set_option linter.unusedVariables false
set_option linter.unusedSimpArgs false
open Go.RowKit

theorem take_onR (k : Int) (l : List Int) (i : Nat) (h : i < l.length) : Key.on k (l.take (i + 1)) = Key.step (Key.on k (l.take i)) (l.getD i 0) := by
  rw [List.take_succ_eq_append_getElem h, Key.on_snoc, List.getD_eq_getElem?_getD, List.getElem?_eq_getElem h]; rfl
set_option maxHeartbeats 400000 in
theorem fkey_walk (a : Option Addr) (l : List Int) (cap : Nat) (w : World) (hr : RdI .u8 w a cap l) :
    Calls Try.prog 21 #[.slice a l.length cap] w fun e w' => e = .returned (.int .u32 (Key.of l)) ∧ w = w' := by
  have hlen := hr.len
  obtain ⟨b, o, hat, hcell⟩ := hr.cells
  have HB := Lib.hid hr.u8; clear hr
  have HAt := Lib.hid hat; clear hat
  have HC := Lib.hid hcell; clear hcell
  go_enter Try.func21, Try.ntmps21
  go_wp2_with fail
  go_loop [3, 4] (fun k v => ∃ i : Nat, i ≤ l.length ∧ v = .int .i64 i ∧ k = .int .u32 (Key.on Key.start (l.take i)))
    (fun _ v => l.length - (intOf v).toNat)
  case atStart => exact ⟨0, Nat.zero_le _, rfl, rfl⟩
  case round =>
    obtain ⟨i, hi, rfl, rfl⟩ := hrel
    by_cases hlt : i < l.length
    · obtain ⟨rfl, hb⟩ := HAt.out (by omega)
      have hx := HB.out i hlt
      have hc := HC.out i hlt
      have hs := Lib.hid (take_onR Key.start l i hlt)
      have hkb := Key.on_bd (l.take i) Key.start (by unfold Key.start; omega) (by unfold Key.start; omega)
      obtain ⟨x, hxe⟩ : ∃ x, x = l.getD i 0 := ⟨_, rfl⟩
      obtain ⟨K, hK⟩ : ∃ K, K = Key.on Key.start (l.take i) := ⟨_, rfl⟩
      rw [← hxe] at hc hx hs
      rw [← hK] at hs hkb ⊢
      clear hxe hK
      go_wp2
      go_round
      case rel => exact ⟨i + 1, by omega, by go_num, by rw [hs.out]; unfold Key.step; go_num⟩
      case measure => simp [intOf]; omega
    · go_wp2
      go_ret
      exact ⟨ret_int (by rw [List.take_of_length_le (by omega)]; rfl), rfl⟩
end Go.Proofs.Ytfnibpkojhgflaa
