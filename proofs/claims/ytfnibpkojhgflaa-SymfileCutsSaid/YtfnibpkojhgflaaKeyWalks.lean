/- Contracts of package key: Start, Step, the closure in On, On. -/
import Derived.Test.YtfnibpkojhgflaaRows
import Derived.Test.YtfnibpkojhgflaaKeyPlain
import Derived.Test.YtfnibpkojhgflaaLibA
namespace Go.Proofs.Ytfnibpkojhgflaa
open Go.RowKit

theorem start_any (w : World) : Calls Try.prog 67 #[] w fun e w' => e = .returned (.int .u32 2166136261) ∧ w = w' := by
  go_enter Try.func67, Try.ntmps67
  go_wp2
  go_ret
  exact ⟨rfl, rfl⟩

theorem step_any (k b : Int) (w : World) (hb0 : 0 ≤ b) (hb1 : b < 256) :
    Calls Try.prog 77 #[.int .u32 k, .int .u8 b] w fun e w' => e = .returned (.int .u32 (Key.step k b)) ∧ w = w' := by
  go_enter Try.func77, Try.ntmps77
  go_wp2
  go_ret
  exact ⟨ret_int (by unfold Key.step; omega), rfl⟩

theorem clo_any (k c : Int) (a : Addr) (w : World) (hc0 : 0 ≤ c) (hc1 : c < 256) (hk : w.cell? a = some (.int .u32 k)) (hf : w.frozen? a = false) :
    Calls Try.prog 76 #[.int .u8 c, .pointer (some a)] w fun e w' => e = .returned (.tuple #[]) ∧ w.setCell a (.int .u32 (Key.step k c)) = w' := by
  go_enter Try.func76, Try.ntmps76
  go_wp2_with (go_at_call 77; refine (step_any _ _ _ hc0 hc1).mono ?_; rintro e w' ⟨rfl, rfl⟩)
  go_end0
  exact ⟨rfl, rfl⟩

theorem take_on (k : Int) (l : List Int) (i : Nat) (h : i < l.length) : Key.on k (l.take (i + 1)) = Key.step (Key.on k (l.take i)) (l.getD i 0) := by
  rw [List.take_succ_eq_append_getElem h, Key.on_snoc, List.getD_eq_getElem?_getD, List.getElem?_eq_getElem h]; rfl

set_option maxHeartbeats 400000 in
theorem on_any (k : Int) (a : Option Addr) (l : List Int) (cap : Nat) (w : World) (hr : RdI .u8 w a cap l) :
    Calls Try.prog 68 #[.int .u32 k, .slice a l.length cap] w fun e w' => e = .returned (.int .u32 (Key.on k l)) ∧ Below w.heap.size w w' := by
  have hlen := hr.len
  obtain ⟨b, o, hat, hcell⟩ := hr.cells
  have HB := Lib.hid hr.u8; clear hr
  have HAt := Lib.hid hat; clear hat
  have HC := Lib.hid hcell; clear hcell
  go_enter Try.func68, Try.ntmps68
  go_wp2
  go_loopw [11] (fun v wr => ∃ i : Nat, i ≤ l.length ∧ v = .int .i64 i ∧ wr = w.alloc (.cells #[.int .u32 (Key.on k (l.take i))] 39))
    (fun v _ => l.length - (intOf v).toNat)
  case atStart => exact ⟨0, Nat.zero_le _, rfl, rfl⟩
  case round =>
    obtain ⟨i, hi, rfl, rfl⟩ := hrel
    by_cases hlt : i < l.length
    · obtain ⟨rfl, hb⟩ := HAt.out (by omega)
      have hx := HB.out i hlt
      have hc : (w.alloc (.cells #[.int .u32 (Key.on k (l.take i))] 39)).cell? ⟨b, o + i, none⟩ = some (.int .u8 (l.getD i 0)) :=
        (((Below.refl _ w).alloc (Nat.le_refl _) _).cell (p := ⟨b, o + i, none⟩) hb).trans (HC.out i hlt)
      have hs := Lib.hid (take_on k l i hlt)
      obtain ⟨x, hxe⟩ : ∃ x, x = l.getD i 0 := ⟨_, rfl⟩
      rw [← hxe] at hc hx hs
      clear hxe
      go_wp2_with fail
      refine (clo_any (Key.on k (l.take i)) x _ _ hx.1 hx.2 (by simp [go_sem]) (by simp [go_sem])).mono ?_
      rintro e w' ⟨rfl, rfl⟩
      go_wp2
      go_roundw
      case rel => exact ⟨i + 1, by omega, by go_num, by rw [hs.out]⟩
      case measure => simp [intOf]; omega
    · go_wp2
      go_ret
      exact ⟨ret_int (by rw [List.take_of_length_le (by omega)]), (Below.refl _ w).alloc (Nat.le_refl _) _⟩

theorem take_flat (k : Int) (ls : List (List Int)) (i : Nat) (h : i < ls.length) : Key.on k (ls.take (i + 1)).flatten = Key.on (Key.on k (ls.take i).flatten) (ls.getD i []) := by
  rw [List.take_succ_eq_append_getElem h, List.flatten_append, Key.on_append, List.getD_eq_getElem?_getD, List.getElem?_eq_getElem h]; simp

set_option maxHeartbeats 400000 in
theorem of_any (a : Option Addr) (ls : List (List Int)) (cap : Nat) (w : World) (hr : RdII .u8 w a cap ls) :
    Calls Try.prog 35 #[.slice a ls.length cap] w fun e w' => e = .returned (.int .u32 (Key.of ls.flatten)) ∧ Below w.heap.size w w' := by
  have hlen := hr.len
  obtain ⟨b, o, hat, hcell⟩ := hr.at'
  clear hr
  have HAt := Lib.hid hat; clear hat
  have HC := Lib.hid hcell; clear hcell
  go_enter Try.func35, Try.ntmps35
  go_wp2_with (go_at_call 67; refine (start_any _).mono ?_; rintro e w' ⟨rfl, rfl⟩)
  go_loopw [3, 9] (fun k v wr => ∃ i : Nat, i ≤ ls.length ∧ v = .int .i64 i ∧ k = .int .u32 (Key.on Key.start (ls.take i).flatten) ∧ Below w.heap.size w wr)
    (fun _ v _ => ls.length - (intOf v).toNat)
  case atStart => exact ⟨0, Nat.zero_le _, rfl, rfl, Below.refl _ _⟩
  case round =>
    obtain ⟨i, hi, rfl, rfl, hbel⟩ := hrel
    by_cases hlt : i < ls.length
    · obtain ⟨rfl, hb⟩ := HAt.out (by omega)
      obtain ⟨x, c, hc0, hrx⟩ := HC.out i hlt
      have hc : wr.cell? ⟨b, o + i, none⟩ = some (.slice x (ls.getD i []).length c) := (hbel.cell (p := ⟨b, o + i, none⟩) hb).trans hc0
      have hs := Lib.hid (take_flat Key.start ls i hlt)
      have hrx' := Lib.hid (hrx.below hbel (Nat.le_refl _))
      clear hc0 hrx
      obtain ⟨m, hm⟩ : ∃ m, m = ls.getD i [] := ⟨_, rfl⟩
      rw [← hm] at hc hs hrx'
      clear hm
      go_wp2_with fail
      refine (on_any _ _ _ _ _ hrx'.out).mono ?_
      rintro e w' ⟨rfl, hb1⟩
      go_wp2
      go_roundw
      case rel => exact ⟨i + 1, by omega, by go_num, by rw [hs.out], hbel.trans (hb1.mono hbel.size)⟩
      case measure => simp [intOf]; omega
    · go_wp2
      go_ret
      exact ⟨ret_int (by rw [List.take_of_length_le (by omega)]; rfl), by assumption⟩

end Go.Proofs.Ytfnibpkojhgflaa
