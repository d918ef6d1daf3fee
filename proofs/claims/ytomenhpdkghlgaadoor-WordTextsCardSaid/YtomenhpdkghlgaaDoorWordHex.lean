/- Contract of word.Hex. -/
import Derived.Test.YtomenhpdkghlgaaDoorWordLaid
import Derived.OwnWalk
namespace Go.Proofs.YtomenhpdkghlgaaDoor
set_option linter.unusedVariables false
set_option linter.unusedSimpArgs false
open Go.RowKit Go.Sort Go.Lib

theorem et_u8 : ET Tryd.prog 44 5 (.int .u8 0) 1 1 := ET.of Tryd.underlying44 (by kernel_rfl) rfl (by decide)

/-- a hexadecimal digit's byte. -/
def hexc (d : Int) : Int := if d < 10 then 48 + d else 87 + d
/-- the first k digits of eight. -/
def hexL (a : Int) (k : Nat) : List Int := (List.range k).map fun j => hexc (a / 2 ^ (28 - 4 * j) % 16)
theorem hexL_succ (a : Int) (k : Nat) : hexL a (k + 1) = hexL a k ++ [hexc (a / 2 ^ (28 - 4 * k) % 16)] := by simp [hexL, List.range_succ]
theorem hexL_len (a : Int) (k : Nat) : (hexL a k).length = k := by simp [hexL]
theorem hexc_bd {d : Int} (h : 0 ≤ d ∧ d < 16) : 48 ≤ hexc d ∧ hexc d < 103 := by unfold hexc; split <;> omega
theorem hexL_bd (a : Int) (k : Nat) : ∀ x ∈ hexL a k, IntKind.u8.min ≤ x ∧ x ≤ IntKind.u8.max := by
  intro x hx
  obtain ⟨j, _, rfl⟩ := List.mem_map.1 hx
  have := hexc_bd (d := a / 2 ^ (28 - 4 * j) % 16) (by omega)
  exact bd_u8' (by omega)
def hexB (a : Int) : ByteArray := strOf (hexL a 8)

theorem and15 (x : Int) (h : 0 ≤ x ∧ x < 4294967296) : bits .and .u32 x 15 = x % 16 := by
  obtain ⟨n, rfl⟩ := Int.eq_ofNat_of_zero_le h.1
  rw [show (15 : Int) = ((15 : Nat) : Int) from rfl, u32_and_nat _ _ (by omega) (by omega)]
  have : n &&& 15 = n % 16 := Nat.and_two_pow_sub_one_eq_mod n 4
  rw [this]; omega
theorem shift_bd {a : Int} (h : 0 ≤ a ∧ a < 4294967296) (k : Nat) : 0 ≤ a / 2 ^ k ∧ a / 2 ^ k < 4294967296 := by
  have hp : (0 : Int) < 2 ^ k := Int.pow_pos (by decide)
  refine ⟨Int.ediv_nonneg h.1 (by omega), ?_⟩
  have := Int.ediv_le_self (2 ^ k) h.1
  omega
/-- a new block of one cell, read. -/
theorem rd_lit (w : World) (x : Value) : RdC (w.alloc (.cells #[x] 5)) (some ⟨w.heap.size, 0, none⟩) 1 1 [x] := by
  have h := World.ownsRow_lit (base := w.heap.size) (e := 5) (size := 1) w #[x] 1 (Nat.le_refl _) (by unfold maxLen; simp) rfl
  obtain ⟨a, c, e, hr⟩ := RdC.own h
  cases e
  exact hr

theorem hex_dig (d : Int) (h : 0 ≤ d ∧ d < 16) {hh : d.toNat < (⟨#[48, 49, 50, 51, 52, 53, 54, 55, 56, 57, 97, 98, 99, 100, 101, 102]⟩ : ByteArray).size} :
    ((((⟨#[48, 49, 50, 51, 52, 53, 54, 55, 56, 57, 97, 98, 99, 100, 101, 102]⟩ : ByteArray)[d.toNat]'hh).toNat : Nat) : Int) = hexc d := by
  obtain ⟨n, rfl⟩ := Int.eq_ofNat_of_zero_le h.1
  have h2 : n < 16 := by omega
  match n, h2 with
  | 0, _ | 1, _ | 2, _ | 3, _ | 4, _ | 5, _ | 6, _ | 7, _ | 8, _ | 9, _ | 10, _ | 11, _ | 12, _ | 13, _ | 14, _ | 15, _ => rfl

set_option maxRecDepth 100000 in
set_option maxHeartbeats 1000000 in
theorem hex_walk (a : Int) (w : World) (ha : 0 ≤ a ∧ a < 4294967296) : Calls Tryd.prog 41 #[.int .u32 a] w fun e w' => e = .returned (.string (hexB a)) ∧ Below w.heap.size w w' := by
  go_enter Tryd.func41, Tryd.ntmps41
  go_wp2
  go_loopw [3, 4] (fun v i wr => ∃ k : Nat, k ≤ 8 ∧ i = .int .i64 (28 - 4 * k) ∧ wr.ownsRow w.heap.size 5 1 v k ((hexL a k).map (Value.int .u8)) ∧ Below w.heap.size w wr)
    (fun _ i _ => (RowKit.intOf i + 4).toNat)
  case atStart => exact ⟨0, Nat.zero_le _, rfl, World.ownsRow_nil _ _ _ _, Below.refl _ _⟩
  case round =>
    obtain ⟨k, hk, rfl, hown, hbel⟩ := hrel
    by_cases hlt : k < 8
    · obtain ⟨j, hj⟩ : ∃ j : Int, j = 28 - 4 * k := ⟨_, rfl⟩
      have hj0 : 0 ≤ j ∧ j ≤ 28 := by omega
      rw [← hj]
      obtain ⟨d, hd⟩ : ∃ d, bits .and .u32 (a / 2 ^ j.toNat) 15 = d := ⟨_, rfl⟩
      have hd2 : d = a / 2 ^ (28 - 4 * k) % 16 := by
        have e : j.toNat = 28 - 4 * k := by omega
        rw [← hd, e]; exact and15 _ (shift_bd ha _)
      have hdb : 0 ≤ d ∧ d < 16 := by omega
      have HOW := Lib.hid hown; clear hown
      have HB := Lib.hid hbel; clear hbel
      have HJ := Lib.hid hj; clear hj
      have HD := Lib.hid hd2; clear hd2
      have i1 : decide (0 ≤ j) = true := decide_eq_true hj0.1
      have i2 : decide (j < 0) = false := decide_eq_false (by omega)
      go_wp2_with (at_builtin; refine append_rd rfl (.tmp 9) (.tmp 15) et_u8 rfl w.heap.size rfl (HOW.out.alloc _) rfl (rd_lit _ _) (by simp) (by intro u hu; obtain rfl := List.mem_singleton.1 hu; rfl) (by omega) (by omega) (by have := HB.out.size; simp; omega) ?_; intro v' w1 hown1 hgrow)
      go_roundw
      case rel =>
        refine ⟨k + 1, by omega, by rw [HJ.out]; go_num, ?_, ?_⟩
        · rw [hexL_succ, ← HD.out, List.map_append]
          rw [hex_dig d hdb] at hown1
          exact hown1
        · exact (HB.out.alloc HB.out.size _).grown hgrow (by have := HB.out.size; simp; omega) (fun g hg => (HOW.out.lt g hg).1)
      case measure => simp [RowKit.intOf]; omega
    · obtain rfl : k = 8 := by omega
      obtain ⟨a', c', rfl, hrd⟩ := RdI.own (k := .u8) (l := hexL a 8) hown (hexL_bd a 8)
      have HR := Lib.hid hrd
      have HB := Lib.hid hbel
      clear hown hrd hbel
      rw [show (28 - 4 * ((8 : Nat) : Int)) = -4 from by decide]
      have cv := run_str_of (P := Tryd.prog) HR.out Tryd.underlying44 Tryd.underlying5 Tryd.underlying9
      go_wp2_with fail
      go_ret
      exact ⟨rfl, HB.out⟩

end Go.Proofs.YtomenhpdkghlgaaDoor
