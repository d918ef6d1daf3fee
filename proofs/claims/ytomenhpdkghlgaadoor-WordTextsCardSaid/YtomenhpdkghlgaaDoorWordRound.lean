/- Plain: texts are read as the word that they are of. -/
import Derived.Test.YtomenhpdkghlgaaDoorWordOfHex
namespace Go.Proofs.YtomenhpdkghlgaaDoor
set_option linter.unusedVariables false
set_option linter.unusedSimpArgs false
open Go.RowKit Go.Sort Go.Lib

theorem codes_strOf (l : List Int) (h : ∀ x ∈ l, 0 ≤ x ∧ x < 256) : codes (strOf l) = l := by
  unfold codes strOf
  simp only [List.map_map]
  conv => rhs; rw [← List.map_id l]
  refine List.map_congr_left fun x hx => ?_
  have hb := h x hx
  simp only [Function.comp, id]
  rw [UInt8.toNat_ofNat']
  have : x.toNat % 2 ^ 8 = x.toNat := Nat.mod_eq_of_lt (by omega)
  omega

theorem hexc_is {d : Int} (h : 0 ≤ d ∧ d < 16) : isHex (hexc d) = true ∧ hexv (hexc d) = d := by
  unfold isHex hexv hexc
  split
  · rw [if_pos (by omega)]; refine ⟨by simp; omega, by omega⟩
  · rw [if_neg (by omega)]; refine ⟨by simp; omega, by omega⟩
theorem hexF_L {a : Int} (ha : 0 ≤ a ∧ a < 4294967296) : ∀ k, k ≤ 8 → hexF (hexL a k) = a / 2 ^ (32 - 4 * k)
  | 0, _ => by
    show (0 : Int) = a / 4294967296
    omega
  | k + 1, h => by
    rw [hexL_succ, hexF_snoc, hexF_L ha k (by omega), (hexc_is (d := a / 2 ^ (28 - 4 * k) % 16) (by omega)).2]
    have e1 : 32 - 4 * k = (28 - 4 * k) + 4 := by omega
    have e2 : 32 - 4 * (k + 1) = 28 - 4 * k := by omega
    have e3 : a / 2 ^ (28 - 4 * k + 4) = a / 2 ^ (28 - 4 * k) / 16 := by
      rw [Int.pow_add, ← Int.ediv_ediv_of_nonneg (Int.le_of_lt (Int.pow_pos (by decide)))]; rfl
    rw [e1, e2, e3]
    omega
theorem hex_round {a : Int} (ha : 0 ≤ a ∧ a < 4294967296) : ofHexV (hexB a) = (a, 0) := by
  have hb : ∀ x ∈ hexL a 8, 0 ≤ x ∧ x < 256 := fun x hx => bd_u8 (hexL_bd a 8 x hx)
  have hc : codes (hexB a) = hexL a 8 := codes_strOf _ hb
  have hs : (hexB a).size = 8 := by rw [← codes_len, hc, hexL_len]
  have hall : (hexL a 8).all isHex = true := by
    rw [List.all_eq_true]
    intro x hx
    obtain ⟨j, _, rfl⟩ := List.mem_map.1 hx
    exact (hexc_is (by omega)).1
  unfold ofHexV
  rw [hc, if_pos ⟨hs, hall⟩, hexF_L ha 8 (Nat.le_refl _)]
  simp

/-! ### decimal texts -/
theorem parse_step (M acc u : Nat) (hu : u < 10) (h : acc * 10 + u ≤ M) (hM : M < 1844674407370955162) (r : List UInt8) : parseUintM M acc (UInt8.ofNat (48 + u) :: r) = parseUintM M (acc * 10 + u) r := by
  have e : (UInt8.ofNat (48 + u)).toNat = 48 + u := by
    rw [UInt8.toNat_ofNat']; exact Nat.mod_eq_of_lt (by omega)
  rw [parseUintM, e, if_pos (by omega), if_neg (by omega), if_neg (by omega), show 48 + u - 48 = u from by omega]
theorem parse_digits (M : Nat) (hM : M < 1844674407370955162) : ∀ (u acc : Nat) (r : List UInt8), acc * 10 ^ nDigits u + u ≤ M → parseUintM M acc (decDigits u ++ r) = parseUintM M (acc * 10 ^ nDigits u + u) r := by
  intro u
  induction u using Nat.strongRecOn with
  | _ u ih =>
    intro acc r h
    by_cases hu : u < 10
    · rw [decDigits, dif_pos hu]
      rw [nDigits_small hu, Nat.pow_one] at h ⊢
      exact parse_step M acc u hu h hM r
    · rw [decDigits, dif_neg hu, List.append_assoc]
      rw [nDigits_big hu] at h ⊢
      have e : acc * 10 ^ (nDigits (u / 10) + 1) + u = (acc * 10 ^ nDigits (u / 10) + u / 10) * 10 + u % 10 := by
        rw [Nat.pow_succ, ← Nat.mul_assoc]
        generalize acc * 10 ^ nDigits (u / 10) = z
        omega
      rw [e] at h ⊢
      rw [ih (u / 10) (by omega) acc _ (by omega)]
      exact parse_step M _ (u % 10) (by omega) h hM r
theorem digits_ne (u : Nat) : decDigits u ≠ [] := by
  have := decDigits_length u
  have h2 := nDigits_pos u
  intro h
  rw [h] at this
  simp at this
  omega
theorem parse_uint (u : Nat) (h : u ≤ 4294967295) : parseUintB 32 (decDigits u) = .ok u := by
  unfold parseUintB
  rw [if_neg (digits_ne u)]
  have := parse_digits (2 ^ 32 - 1) (by decide) u 0 [] (by simpa using h)
  rw [List.append_nil] at this
  rw [this]
  simp [parseUintM]
theorem digit_head : ∀ (u : Nat), ∃ c r, decDigits u = c :: r ∧ 48 ≤ c.toNat ∧ c.toNat ≤ 57 := by
  intro u
  induction u using Nat.strongRecOn with
  | _ u ih =>
    by_cases hu : u < 10
    · refine ⟨UInt8.ofNat (48 + u), [], by rw [decDigits, dif_pos hu], ?_⟩
      have e : (UInt8.ofNat (48 + u)).toNat = 48 + u := by
        rw [UInt8.toNat_ofNat']; exact Nat.mod_eq_of_lt (by omega)
      omega
    · obtain ⟨c, r, h1, h2⟩ := ih (u / 10) (by omega)
      exact ⟨c, r ++ [UInt8.ofNat (48 + u % 10)], by rw [decDigits, dif_neg hu, h1]; rfl, h2⟩
theorem parse_itoa {n : Int} (h : -2147483648 ≤ n ∧ n < 2147483648) : parseIntB 32 (itoa n) = .ok n := by
  unfold itoa
  by_cases hn : n < 0
  · rw [if_pos hn]
    unfold parseIntB
    simp only [show (45 : UInt8).toNat = 45 from rfl, or_true, if_true]
    rw [parse_uint _ (by omega)]
    simp only [not_true, false_and, if_false, true_and]
    rw [if_neg (by simp; omega)]
    congr 1
    omega
  · rw [if_neg hn]
    obtain ⟨c, r, h1, h2, h3⟩ := digit_head n.toNat
    have h4 := parse_uint n.toNat (by omega)
    rw [h1] at h4 ⊢
    have h5 : ¬ (c.toNat = 43 ∨ c.toNat = 45) := by omega
    unfold parseIntB
    simp only [h5, if_false]
    rw [h4]
    simp only [show ¬ c.toNat = 45 from by omega, not_false_eq_true, true_and, false_and, if_false]
    rw [if_neg (by simp; omega)]
    have e6 : ((n.toNat : Nat) : Int) = n := by omega
    rw [e6]
theorem dec_round {a : Int} (ha : 0 ≤ a ∧ a < 4294967296) : ofDecV (decB a) = (a, 0) := by
  have h1 := W.sg_bd ha.1 ha.2
  have h2 := parse_itoa h1
  have e : (decB a).data.toList = itoa (W.sg a) := rfl
  have e2 : W.wd (W.sg a) = a := W.sg_wd ha.1 ha.2
  unfold ofDecV
  rw [e, h2]
  simp only [e2, beq_self_eq_true, if_true]

end Go.Proofs.YtomenhpdkghlgaaDoor
