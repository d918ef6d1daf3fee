/- The law WordMeans, walked. -/
import Derived.Test.YtomenhpdkghlgaaDoorWordRound
import Derived.Test.YtomenhpdkghlgaaDoorWordOf
import Derived.Test.YtomenhpdkghlgaaDoorWordDivides
import Derived.Test.YtomenhpdkghlgaaDoorWordExt
namespace Go.Proofs.YtomenhpdkghlgaaDoor
set_option linter.unusedVariables false
set_option linter.unusedSimpArgs false
open Go.RowKit Go.Sort Go.Lib

theorem turn_one (x : Int) : W.turn x 1 = x / 2 + x % 2 * 2147483648 := by
  have := W.turn_succ (a := x) 0 (by omega)
  rw [W.turn_zero] at this
  exact this
theorem turn_step (a : Int) (k : Nat) (h : k ≤ 31) : W.turn (W.turn a k) 1 = W.turn a (k + 1) := by rw [turn_one, W.turn_succ k h]
theorem turn_all {a : Int} (ha : 0 ≤ a ∧ a < 4294967296) : W.turn a 32 = a := by
  unfold W.turn
  rw [show (2 : Int) ^ 32 = 4294967296 from by decide]
  simp
  omega
theorem take_back {a b : Int} (ha : 0 ≤ a ∧ a < 4294967296) : W.wd (W.wd (a + b + 0) - b - 0) = a := by unfold W.wd; omega
theorem back_all {a b : Int} (ha : 0 ≤ a ∧ a < 4294967296) (hb : 0 < b ∧ b < 2147483648) : W.wd (W.mulLo true (W.quo a b) b + W.rem a b + 0) = a := by
  obtain ⟨q1, q2, q3, q4⟩ := quo_plain ha hb
  have hsb : W.sg b = b := by unfold W.sg; rw [if_neg (by omega)]
  have h3 := Int.mul_ediv_add_emod (W.sg a) b
  have h4 := W.sg_wd ha.1 ha.2
  unfold W.mulLo
  rw [if_pos rfl, q1, hsb]
  unfold W.rem
  rw [Int.mul_comm] at h3
  generalize W.sg a / b * b = z at h3
  generalize W.sg a % b = r at h3
  rw [← h3] at h4
  unfold W.wd at h4 ⊢
  omega

theorem nDigits_le (u : Nat) : nDigits u ≤ u + 1 := by
  induction u using Nat.strongRecOn with
  | _ u ih =>
    by_cases hu : u < 10
    · rw [nDigits_small hu]; omega
    · rw [nDigits_big hu]
      have := ih (u / 10) (by omega)
      omega
theorem decB_size {a : Int} (ha : 0 ≤ a ∧ a < 4294967296) : (decB a).size ≤ 281474976710656 := by
  have h1 := W.sg_bd ha.1 ha.2
  have e : (decB a).size = (itoa (W.sg a)).length := by unfold decB; simp [ByteArray.size]
  rw [e]
  unfold itoa
  split
  · rw [List.length_cons, decDigits_length]
    have := nDigits_le (W.sg a).natAbs
    omega
  · rw [decDigits_length]
    have := nDigits_le (W.sg a).toNat
    omega

set_option maxRecDepth 100000 in
set_option maxHeartbeats 8000000 in
theorem means_walk (a b : Int) (w : World) (hL : Laid w) (ha : 0 ≤ a ∧ a < 4294967296) (hb : 0 ≤ b ∧ b < 4294967296) : Calls Tryd.prog 11 #[.int .u32 a, .int .u32 b] w fun e w' => e = .returned (.bool true) ∧ Below w.heap.size w w' := by
  have HL := Lib.hid hL
  clear hL
  obtain ⟨s, p1, p2, h1, hs⟩ : ∃ n p q, (∀ w, Calls Tryd.prog 12 #[.int .u32 a, .int .u32 b, .bool false] w fun e w' => e = .returned (.tuple #[.int .u32 n, .bool p, .bool q]) ∧ w = w') ∧ n = W.wd (a + b + 0) := ⟨_, _, _, fun w => word_add a b false w ha hb 0 rfl, rfl⟩
  have hsb : 0 ≤ s ∧ s < 4294967296 := by rw [hs]; exact ⟨W.wd_lo _, W.wd_hi _⟩
  obtain ⟨p3, p4, h2⟩ : ∃ p q, (∀ w, Calls Tryd.prog 14 #[.int .u32 s, .int .u32 b, .bool false] w fun e w' => e = .returned (.tuple #[.int .u32 a, .bool p, .bool q]) ∧ w = w') := ⟨_, _, fun w => by
    have := word_sub s b false w hsb hb 0 rfl
    rw [hs, take_back ha] at this
    rw [hs]
    exact this⟩
  have HT := Lib.hid (fun (k : Nat) (hk : k < 32) w => by
    have := word_turn a k w ha (by omega)
    rw [show ((k : Int) % 32).toNat = k from by omega] at this
    exact this)
  have HTB := Lib.hid (fun (k : Nat) (hk : k ≤ 32) => W.turn_bd ha.1 ha.2 k hk)
  have HTS := Lib.hid (fun (k : Nat) (hk : k < 32) w => by
    have := word_turn (W.turn a k) 1 w (W.turn_bd ha.1 ha.2 k (by omega)) (by omega)
    rw [show ((1 : Int) % 32).toNat = 1 from by decide, turn_step a k (by omega)] at this
    exact this)
  have HT32 := Lib.hid (turn_all ha)
  have H1 := Lib.hid h1
  have H2 := Lib.hid h2
  have HDec := Lib.hid (fun w hL => dec_walk a w ha hL)
  have HOD := Lib.hid (fun w hL hz => ofdec_walk (decB a) w hz hL)
  rw [dec_round ha] at HOD
  have HHex := Lib.hid (fun w => hex_walk a w ha)
  have HOH := Lib.hid (fun w hz => ofhex_walk (hexB a) w hz)
  rw [hex_round ha] at HOH
  have HN := Lib.hid (fun w => num_walk 0 w)
  have HA := Lib.hid ha
  have HB := Lib.hid hb
  clear h1 h2 hs hsb
  go_enter Tryd.func11, Tryd.ntmps11
  go_wp2_with fail
  refine (known_walk _ HL.out).mono ?_
  rintro e w1 ⟨rfl, hb1⟩
  have B1 := Lib.hid hb1
  clear hb1
  go_wp2_with fail
  (refine (H1.out _).mono ?_ ; rintro e w' ⟨rfl, rfl⟩ ; go_wp2_with fail)
  (refine (H2.out _).mono ?_ ; rintro e w' ⟨rfl, rfl⟩ ; go_wp2_with fail)
  go_loopw [11, 12] (fun x i wr => ∃ k : Nat, k ≤ 32 ∧ x = .int .u32 (W.turn a k) ∧ i = .int .u32 k ∧ wr = w1) (fun _ i _ => 32 - (RowKit.intOf i).toNat)
  case atStart => exact ⟨0, by omega, by rw [W.turn_zero], rfl, rfl⟩
  case round =>
    obtain ⟨k, hk, rfl, rfl, rfl⟩ := hrel
    by_cases hlt : k < 32
    · obtain ⟨x, hx⟩ : ∃ x, x = W.turn a k := ⟨_, rfl⟩
      obtain ⟨y, hy⟩ : ∃ y, y = W.turn a (k + 1) := ⟨_, rfl⟩
      have h3 := HT.out k hlt
      have h4 := HTS.out k hlt
      rw [← hx] at h3 h4
      rw [← hy] at h4
      have H3 := Lib.hid h3
      have H4 := Lib.hid h4
      have HY := Lib.hid hy
      have d1 : decide ((k : Int) < 32) = true := decide_eq_true (by omega)
      rw [← hx]
      clear h3 h4 hx hy
      go_wp2_with fail
      (refine (H3.out _).mono ?_ ; rintro e w' ⟨rfl, rfl⟩ ; go_wp2_with fail)
      (refine (H4.out _).mono ?_ ; rintro e w' ⟨rfl, rfl⟩ ; go_wp2_with fail)
      go_roundw
      case rel => exact ⟨k + 1, by omega, by rw [HY.out], by go_num, by first | rfl | trivial⟩
      case measure => simp [RowKit.intOf]; omega
    · obtain rfl : k = 32 := by omega
      rw [HT32.out]
      go_wp2_with fail
      refine (HDec.out _ (HL.out.bel B1.out)).mono ?_
      rintro e w2 ⟨rfl, hb2⟩
      have B2 := Lib.hid (bel_then B1.out hb2)
      clear hb2
      go_wp2_with fail
      refine (HOD.out _ (HL.out.bel B2.out) (decB_size HA.out)).mono ?_
      rintro e w3 ⟨rfl, hb3⟩
      have B3 := Lib.hid (bel_then B2.out hb3)
      clear hb3
      go_wp2_with fail
      refine (HHex.out _).mono ?_
      rintro e w4 ⟨rfl, hb4⟩
      have B4 := Lib.hid (bel_then B3.out hb4)
      clear hb4
      go_wp2_with fail
      refine (HOH.out _ (by rw [← codes_len]; unfold hexB; rw [codes_strOf _ (fun x hx => bd_u8 (hexL_bd a 8 x hx)), hexL_len]; omega)).mono ?_
      rintro e w5 ⟨rfl, hb5⟩
      have B5 := Lib.hid (bel_then B4.out hb5)
      clear hb5
      go_wp2_with fail
      have hr6 : RdI .u32 (w5.alloc (.cells #[.int .u32 a, .int .u32 b] 22)) (some ⟨w5.heap.size, 0, none⟩) 2 [a, b] := ⟨rd_lits w5 22 #[.int .u32 a, .int .u32 b] (by simp), fun x hx => by
        rcases List.mem_cons.1 hx with rfl | hx
        · exact bd_u32' HA.out
        · obtain rfl := List.mem_singleton.1 hx; exact bd_u32' HB.out⟩
      have h6 := bytes_walk (some ⟨w5.heap.size, 0, none⟩) [a, b] 2 _ hr6 (by simp)
      have hwb := words_bytes [a, b] (fun x hx => by
        rcases List.mem_cons.1 hx with rfl | hx
        · exact HA.out
        · obtain rfl := List.mem_singleton.1 hx; exact HB.out)
      obtain ⟨L, hLL⟩ : ∃ L, L = bytesL [a, b] := ⟨_, rfl⟩
      have hl8 : L.length = 8 := by rw [hLL, bytesL_len]; rfl
      rw [← hLL] at h6 hwb
      have HWB := Lib.hid hwb
      have HL8 := Lib.hid hl8
      clear hr6 hwb hLL hl8
      refine h6.mono ?_
      rintro e w7 ⟨a7, c7, rfl, hx7, hb7⟩
      have B7 := Lib.hid (bel_then B5.out (bel_then (bel1 w5 _) hb7))
      have HX7 := Lib.hid hx7
      clear h6 hx7 hb7
      go_wp2_with fail
      refine (of_bytes a7 L c7 _ HX7.out (by have := HL8.out; omega) (by have := HL8.out; omega)).mono ?_
      unfold OfB
      rw [HWB.out]
      rintro e w8 ⟨a8, c8, rfl, hx8, hb8⟩
      have B8 := Lib.hid (bel_then B7.out hb8)
      obtain ⟨b8, o8, hat, hc8⟩ := hx8.cells
      obtain ⟨rfl, _⟩ := hat (by simp)
      have f0 : w8.cell? ⟨b8, o8, none⟩ = some (.int .u32 a) := hc8 0 (by simp)
      have f1 : w8.cell? ⟨b8, o8 + 1, none⟩ = some (.int .u32 b) := hc8 1 (by simp)
      have hcap := hx8.row.le
      have hcc : 2 ≤ c8 := hcap
      clear hx8 hb8 hc8 hat hcap
      go_wp2_with fail
      (refine (HN.out _).mono ?_ ; rintro e w' ⟨rfl, rfl⟩ ; go_wp2_with fail)
      (refine (HN.out _).mono ?_ ; rintro e w' ⟨rfl, rfl⟩ ; go_wp2_with fail)
      (refine (HN.out _).mono ?_ ; rintro e w' ⟨rfl, rfl⟩ ; go_wp2_with fail)
      clear f0 f1
      by_cases hsb : W.sg b ≤ 0
      · have H9 := Lib.hid (fun w => word_div_no a b w HB.out hsb)
        have HN2 := Lib.hid (fun w => num_walk 2 w)
        clear hsb
        (refine (H9.out _).mono ?_ ; rintro e w' ⟨rfl, rfl⟩ ; go_wp2_with fail)
        (refine (HN2.out _).mono ?_ ; rintro e w' ⟨rfl, rfl⟩ ; go_wp2_with fail)
        go_ret
        exact ⟨rfl, B8.out⟩
      · have hp := sg_pos HB.out hsb
        have hsg : W.sg b = b := by unfold W.sg; rw [if_neg (by omega)]
        obtain ⟨q1, q2, q3, q4⟩ := quo_plain HA.out hp
        have hback := back_all HA.out hp
        have hmod := Int.emod_lt_of_pos (W.sg a) hp.1
        have hmod0 := Int.emod_nonneg (W.sg a) (show b ≠ 0 by omega)
        rw [← q2] at hmod hmod0
        have h9 := fun w => word_div a b w HA.out hp
        obtain ⟨q, hq⟩ : ∃ q, q = W.quo a b := ⟨_, rfl⟩
        obtain ⟨r, hr⟩ : ∃ r, r = W.rem a b := ⟨_, rfl⟩
        rw [← hq, ← hr] at h9 hback
        rw [← hq] at q3
        rw [← hr] at q4 hmod hmod0
        obtain ⟨m, hm, h10, hmm⟩ : ∃ m g, (∀ w, Calls Tryd.prog 16 #[.int .u32 q, .int .u32 b, .bool true] w fun e w' => e = .returned (.tuple #[.int .u32 m, .int .u32 g]) ∧ w = w') ∧ m = W.mulLo true q b := ⟨_, _, fun w => word_mul q b true w q3 HB.out, rfl⟩
        have hmb : 0 ≤ m ∧ m < 4294967296 := by rw [hmm]; unfold W.mulLo; simp only [if_true]; omega
        rw [← hmm] at hback
        obtain ⟨v1, v2, h11⟩ : ∃ p q, (∀ w, Calls Tryd.prog 12 #[.int .u32 m, .int .u32 r, .bool false] w fun e w' => e = .returned (.tuple #[.int .u32 a, .bool p, .bool q]) ∧ w = w') := ⟨_, _, fun w => by
          have := word_add m r false w hmb q4 0 rfl
          rw [hback] at this
          exact this⟩
        have h12 := fun w => less_walk r 0 w q4 (by omega)
        have h13 := fun w => less_walk r b w q4 HB.out
        rw [show decide (W.sg r < W.sg 0) = false from decide_eq_false (by rw [show W.sg 0 = 0 from rfl]; omega)] at h12
        rw [show decide (W.sg r < W.sg b) = true from decide_eq_true (by rw [hsg]; exact hmod)] at h13
        have H9 := Lib.hid h9
        have H10 := Lib.hid h10
        have H11 := Lib.hid h11
        have H12 := Lib.hid h12
        have H13 := Lib.hid h13
        clear h9 h10 h11 h12 h13 hsb hp hsg q1 q2 q3 q4 hback hmod hmod0 hq hr hmm hmb
        refine (H9.out _).mono ?_
        rintro e w' ⟨rfl, k9, rfl⟩
        have B9 := Lib.hid (bel_then B8.out (bel_drewN w8 k9))
        generalize w8.drewN k9 = w9 at *
        go_wp2_with fail
        (refine (HN.out _).mono ?_ ; rintro e w' ⟨rfl, rfl⟩ ; go_wp2_with fail)
        (refine (H10.out _).mono ?_ ; rintro e w' ⟨rfl, rfl⟩ ; go_wp2_with fail)
        (refine (H11.out _).mono ?_ ; rintro e w' ⟨rfl, rfl⟩ ; go_wp2_with fail)
        (refine (H12.out _).mono ?_ ; rintro e w' ⟨rfl, rfl⟩ ; go_wp2_with fail)
        (refine (H13.out _).mono ?_ ; rintro e w' ⟨rfl, rfl⟩ ; go_wp2_with fail)
        go_ret
        exact ⟨rfl, B9.out⟩

end Go.Proofs.YtomenhpdkghlgaaDoor
