/- Contracts of the reference's Hex and OfHex. -/
import Derived.Test.YtomenhpdkghlgaaDoorWordRound
namespace Go.Proofs.YtomenhpdkghlgaaDoor
set_option linter.unusedVariables false
set_option linter.unusedSimpArgs false
open Go.RowKit Go.Sort Go.Lib

theorem strOf_append (l m : List Int) : strOf (l ++ m) = strOf l ++ strOf m := by
  apply ByteArray.ext
  simp [strOf]
/-- the last i digits. -/
def hexR (a : Int) : Nat → List Int
  | 0 => []
  | i + 1 => hexc (a / 16 ^ i % 16) :: hexR a i
theorem strOf_size (l : List Int) : (strOf l).size = l.length := by simp [strOf, ByteArray.size]
theorem hexR_len (a : Int) (i : Nat) : (hexR a i).length = i := by
  induction i with
  | zero => rfl
  | succ i ih => simp [hexR, ih]
theorem hexR_all (a : Int) : hexR a 8 = hexL a 8 := by
  simp [hexR, hexL, List.range_succ]
theorem str_one (w : World) (d : Int) (h : 0 ≤ d ∧ d < 256) : (convert 44 9 (.slice (some ⟨w.heap.size, 0, none⟩) 1 1)).run Tryd.prog (w.alloc (.cells #[.int .u8 d] 5)) = .ok (.string (strOf [d])) (w.alloc (.cells #[.int .u8 d] 5)) :=
  run_str_of (P := Tryd.prog) (l := [d]) ⟨rd_lit w (.int .u8 d), fun x hx => by obtain rfl := List.mem_singleton.1 hx; exact bd_u8' h⟩ Tryd.underlying44 Tryd.underlying5 Tryd.underlying9

set_option maxRecDepth 100000 in
set_option maxHeartbeats 4000000 in
theorem rhex_walk (a : Int) (w : World) (ha : 0 ≤ a ∧ a < 4294967296) : Calls Tryd.prog 42 #[.int .u32 a] w fun e w' => e = .returned (.string (hexB a)) ∧ Below w.heap.size w w' := by
  have HA := Lib.hid ha
  go_enter Tryd.func42, Tryd.ntmps42
  go_wp2_with fail
  go_loopw [0, 3, 4] (fun x t i wr => ∃ k : Nat, k ≤ 8 ∧ i = .int .i64 k ∧ x = .int .u32 (a / 16 ^ k) ∧ t = .string (strOf (hexR a k)) ∧ Below w.heap.size w wr) (fun _ _ i _ => 8 - (RowKit.intOf i).toNat)
  case atStart => exact ⟨0, by omega, rfl, by simp, rfl, Below.refl _ _⟩
  case round =>
    obtain ⟨k, hk, rfl, rfl, rfl, hbel⟩ := hrel
    have HB := Lib.hid hbel
    clear hbel
    by_cases hlt : k < 8
    · have hp : (0 : Int) < 16 ^ k := Int.pow_pos (by decide)
      have hy : 0 ≤ a / 16 ^ k ∧ a / 16 ^ k < 4294967296 := ⟨Int.ediv_nonneg ha.1 (Int.le_of_lt hp), Int.lt_of_le_of_lt (Int.ediv_le_self _ ha.1) ha.2⟩
      have hdv : a / 16 ^ (k + 1) = a / 16 ^ k / 16 := by rw [Int.pow_succ, Int.ediv_ediv_of_nonneg (Int.le_of_lt hp)]
      have hrr : hexR a (k + 1) = hexc (a / 16 ^ k % 16) :: hexR a k := rfl
      obtain ⟨y, hye⟩ : ∃ y, y = a / 16 ^ k := ⟨_, rfl⟩
      rw [← hye] at hy hdv hrr
      rw [← hye]
      obtain ⟨t, ht⟩ : ∃ t, t = strOf (hexR a k) := ⟨_, rfl⟩
      have hst : strOf (hexR a (k + 1)) = strOf [hexc (y % 16)] ++ t := by rw [hrr, ht, ← strOf_append]; rfl
      have hts : t.size = k := by rw [ht, strOf_size, hexR_len]
      have hz : ∀ d : Int, ¬ 9223372036854775807 < (strOf [d]).size + t.size := fun d => by rw [strOf_size, hts]; simp; omega
      rw [← ht]
      have HST := Lib.hid hst
      have HDV := Lib.hid hdv
      have d1 : decide ((k : Int) < 8) = true := decide_eq_true (by omega)
      have HZ := Lib.hid hz
      clear hye ht hst hrr hdv hp hts hz
      by_cases hd : y % 16 < 10
      · have d2 : decide (y % 16 < 10) = true := decide_eq_true hd
        have e : hexc (y % 16) = y % 16 + 48 := by unfold hexc; rw [if_pos hd]; omega
        have hcv := str_one wr (y % 16 + 48) (by omega)
        have hz := HZ.out (y % 16 + 48)
        have E := Lib.hid e
        clear e
        go_wp2_with fail
        go_roundw
        case rel =>
          refine ⟨k + 1, by omega, by go_num, by rw [HDV.out], by rw [HST.out, E.out], HB.out.alloc HB.out.size _⟩
        case measure => simp [RowKit.intOf]; omega
      · have d2 : decide (y % 16 < 10) = false := decide_eq_false hd
        have e : hexc (y % 16) = y % 16 - 10 + 97 := by unfold hexc; rw [if_neg hd]; omega
        have hcv := str_one wr (y % 16 - 10 + 97) (by omega)
        have hz := HZ.out (y % 16 - 10 + 97)
        have E := Lib.hid e
        clear e
        go_wp2_with fail
        go_roundw
        case rel =>
          refine ⟨k + 1, by omega, by go_num, by rw [HDV.out], by rw [HST.out, E.out], HB.out.alloc HB.out.size _⟩
        case measure => simp [RowKit.intOf]; omega
    · obtain rfl : k = 8 := by omega
      rw [hexR_all]
      have HE : Hid (strOf (hexL a 8) = hexB a) := rfl
      rw [HE.out]
      go_wp2_with fail
      go_ret
      exact ⟨rfl, HB.out⟩

end Go.Proofs.YtomenhpdkghlgaaDoor
