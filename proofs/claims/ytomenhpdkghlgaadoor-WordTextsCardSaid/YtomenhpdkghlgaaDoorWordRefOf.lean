/- Contracts of the reference's OfHex and OfDec. -/
import Derived.Test.YtomenhpdkghlgaaDoorWordRefHex
namespace Go.Proofs.YtomenhpdkghlgaaDoor
set_option linter.unusedVariables false
set_option linter.unusedSimpArgs false
open Go.RowKit Go.Sort Go.Lib

def hstep (n c : Int) : Int := (16 * n + (if 97 ≤ c then c - 97 + 10 else (c - 48) % 4294967296)) % 4294967296
def rhexV (s : ByteArray) : Int := ((codes s).take 9).foldl hstep 0

theorem fold_take (f : Int → Int → Int) (s : ByteArray) (k : Nat) (h : k < s.size) : ((codes s).take (k + 1)).foldl f 0 = f (((codes s).take k).foldl f 0) (((s[k]'h).toNat : Nat) : Int) := by
  rw [codes_at s k h, List.foldl_append]; rfl
theorem hstep_bd (n c : Int) : 0 ≤ hstep n c ∧ hstep n c < 4294967296 := by unfold hstep; omega
theorem hfold_bd : ∀ (l : List Int) (n : Int), (0 ≤ n ∧ n < 4294967296) → 0 ≤ l.foldl hstep n ∧ l.foldl hstep n < 4294967296
  | [], n, h => h
  | c :: l, n, h => hfold_bd l (hstep n c) (hstep_bd n c)

theorem ret_wb {a b : Int} {p q : Bool} (h : a = b) (h2 : p = q) : Ending.returned (.tuple #[.int .u32 a, .bool p]) = .returned (.tuple #[.int .u32 b, .bool q]) := by rw [h, h2]
set_option maxRecDepth 100000 in
set_option maxHeartbeats 4000000 in
theorem rofhex_walk (s : ByteArray) (w : World) (hs : s.size ≤ 100000) : Calls Tryd.prog 38 #[.string s] w fun e w' => e = .returned (.tuple #[.int .u32 (rhexV s), .bool ((hexB (rhexV s)).toList == s.toList)]) ∧ Below w.heap.size w w' := by
  go_enter Tryd.func38, Tryd.ntmps38
  go_wp2_with fail
  go_loopw [4, 5] (fun x i wr => ∃ k : Nat, k ≤ s.size ∧ k ≤ 9 ∧ i = .int .i64 k ∧ x = .int .u32 (((codes s).take k).foldl hstep 0) ∧ wr = w) (fun _ i _ => 9 - (RowKit.intOf i).toNat)
  case atStart => exact ⟨0, by omega, by omega, rfl, rfl, rfl⟩
  case round =>
    obtain ⟨k, hk, hk9, rfl, rfl, rfl⟩ := hrel
    have hxb := hfold_bd ((codes s).take k) 0 (by omega)
    by_cases h1 : k < s.size
    · by_cases h2 : k < 9
      · have hst := fold_take hstep s k h1
        have HST := Lib.hid hst
        obtain ⟨x, hx⟩ : ∃ x, x = ((codes s).take k).foldl hstep 0 := ⟨_, rfl⟩
        rw [← hx] at hst hxb
        rw [← hx]
        obtain ⟨y, hy⟩ : ∃ y, y = ((codes s).take (k + 1)).foldl hstep 0 := ⟨_, rfl⟩
        rw [← hy] at hst
        have d1 : decide ((k : Int) < s.size) = true := decide_eq_true (by omega)
        have d2 : decide ((k : Int) < 9) = true := decide_eq_true (by omega)
        clear HST hx
        have hcb : (s[k]'h1).toNat < 256 := UInt8.toNat_lt _
        go_wp2_with fail
        all_goals
          go_roundw
          case rel => exact ⟨k + 1, by omega, by omega, by go_num, by rw [← hy, hst]; congr 1; unfold hstep; first | (rw [if_neg (by omega)]; omega) | (rw [if_pos (by omega)]; omega), by first | rfl | trivial⟩
          case measure => simp [RowKit.intOf]; omega
      · have e : (codes s).take k = (codes s).take 9 := by rw [show k = 9 from by omega]
        have e2 : ((codes s).take k).foldl hstep 0 = rhexV s := by rw [e]; rfl
        have d1 : decide ((k : Int) < s.size) = true := decide_eq_true (by omega)
        have d2 : decide ((k : Int) < 9) = false := decide_eq_false (by omega)
        rw [e2] at hxb ⊢
        clear e e2
        ( obtain ⟨x, hx⟩ : ∃ x, x = rhexV s := ⟨_, rfl⟩ ; have HX := Lib.hid hx ; rw [← hx] at hxb ⊢ ; clear hx ; obtain ⟨t, ht⟩ : ∃ t, t = hexB x := ⟨_, rfl⟩ ; have h9 := fun w => rhex_walk x w hxb ; rw [← ht] at h9 ; have HT := Lib.hid ht ; have H9 := Lib.hid h9 ; clear ht h9 ; go_wp2_with fail ; refine (H9.out _).mono ?_ ; rintro e w1 ⟨rfl, hb1⟩ ; have B1 := Lib.hid hb1 ; clear hb1 ; go_wp2_with fail ; go_ret2 ; exact ⟨ret_wb HX.out (by rw [← HX.out, ← HT.out]), B1.out⟩)
    · have e : (codes s).take k = (codes s).take 9 := by
        rw [List.take_of_length_le (by rw [codes_len]; omega), List.take_of_length_le (by rw [codes_len]; omega)]
      have e2 : ((codes s).take k).foldl hstep 0 = rhexV s := by rw [e]; rfl
      have d1 : decide ((k : Int) < s.size) = false := decide_eq_false (by omega)
      rw [e2] at hxb ⊢
      clear e e2
      ( obtain ⟨x, hx⟩ : ∃ x, x = rhexV s := ⟨_, rfl⟩ ; have HX := Lib.hid hx ; rw [← hx] at hxb ⊢ ; clear hx ; obtain ⟨t, ht⟩ : ∃ t, t = hexB x := ⟨_, rfl⟩ ; have h9 := fun w => rhex_walk x w hxb ; rw [← ht] at h9 ; have HT := Lib.hid ht ; have H9 := Lib.hid h9 ; clear ht h9 ; go_wp2_with fail ; refine (H9.out _).mono ?_ ; rintro e w1 ⟨rfl, hb1⟩ ; have B1 := Lib.hid hb1 ; clear hb1 ; go_wp2_with fail ; go_ret2 ; exact ⟨ret_wb HX.out (by rw [← HX.out, ← HT.out]), B1.out⟩)

/-! ### its round trip -/
theorem hstep_hex {n c : Int} (h : isHex c = true) (hn : 0 ≤ n * 16 + hexv c ∧ n * 16 + hexv c < 4294967296) : hstep n c = n * 16 + hexv c := by
  unfold isHex at h
  simp only [Bool.or_eq_true, decide_eq_true_eq] at h
  unfold hstep hexv at *
  split <;> split at hn <;> omega
theorem rhex_L {a : Int} (ha : 0 ≤ a ∧ a < 4294967296) : ∀ k, k ≤ 8 → (hexL a k).foldl hstep 0 = a / 2 ^ (32 - 4 * k)
  | 0, _ => by
    show (0 : Int) = a / 4294967296
    omega
  | k + 1, h => by
    have hd : 0 ≤ a / 2 ^ (28 - 4 * k) % 16 ∧ a / 2 ^ (28 - 4 * k) % 16 < 16 := by omega
    obtain ⟨h1, h2⟩ := hexc_is hd
    have e1 : 32 - 4 * k = (28 - 4 * k) + 4 := by omega
    have e2 : 32 - 4 * (k + 1) = 28 - 4 * k := by omega
    have e3 : a / 2 ^ (28 - 4 * k + 4) = a / 2 ^ (28 - 4 * k) / 16 := by
      rw [Int.pow_add, ← Int.ediv_ediv_of_nonneg (Int.le_of_lt (Int.pow_pos (by decide)))]; rfl
    have hb := shift_bd ha (28 - 4 * k)
    rw [hexL_succ, List.foldl_append, rhex_L ha k (by omega), e1, e2, e3]
    show hstep _ _ = _
    rw [hstep_hex h1 (by rw [h2]; omega), h2]
    omega
theorem rhex_round {a : Int} (ha : 0 ≤ a ∧ a < 4294967296) : rhexV (hexB a) = a := by
  have hb : ∀ x ∈ hexL a 8, 0 ≤ x ∧ x < 256 := fun x hx => bd_u8 (hexL_bd a 8 x hx)
  have hc : codes (hexB a) = hexL a 8 := codes_strOf _ hb
  unfold rhexV
  rw [hc, List.take_of_length_le (by rw [hexL_len]; omega), rhex_L ha 8 (Nat.le_refl _)]
  simp
theorem hexc_hexv {c : Int} (h : isHex c = true) : hexc (hexv c) = c := by
  unfold isHex at h
  simp only [Bool.or_eq_true, decide_eq_true_eq] at h
  unfold hexc hexv
  split <;> split <;> omega
theorem eight {l : List Int} (h : l.length = 8) : ∃ c0 c1 c2 c3 c4 c5 c6 c7, l = [c0, c1, c2, c3, c4, c5, c6, c7] := by
  match l, h with
  | [c0, c1, c2, c3, c4, c5, c6, c7], _ => exact ⟨c0, c1, c2, c3, c4, c5, c6, c7, rfl⟩
theorem digits8 {d0 d1 d2 d3 d4 d5 d6 d7 n : Int} (b0 : 0 ≤ d0 ∧ d0 < 16) (b1 : 0 ≤ d1 ∧ d1 < 16) (b2 : 0 ≤ d2 ∧ d2 < 16) (b3 : 0 ≤ d3 ∧ d3 < 16) (b4 : 0 ≤ d4 ∧ d4 < 16) (b5 : 0 ≤ d5 ∧ d5 < 16) (b6 : 0 ≤ d6 ∧ d6 < 16) (b7 : 0 ≤ d7 ∧ d7 < 16)
    (h : n = (((((((0 * 16 + d0) * 16 + d1) * 16 + d2) * 16 + d3) * 16 + d4) * 16 + d5) * 16 + d6) * 16 + d7) :
    (0 ≤ n ∧ n < 4294967296) ∧ n / 268435456 % 16 = d0 ∧ n / 16777216 % 16 = d1 ∧ n / 1048576 % 16 = d2 ∧ n / 65536 % 16 = d3 ∧ n / 4096 % 16 = d4 ∧ n / 256 % 16 = d5 ∧ n / 16 % 16 = d6 ∧ n / 1 % 16 = d7 := by omega
theorem hex_inv {l : List Int} (h : l.length = 8) (ha : l.all isHex = true) : (0 ≤ hexF l ∧ hexF l < 4294967296) ∧ hexL (hexF l) 8 = l := by
  obtain ⟨c0, c1, c2, c3, c4, c5, c6, c7, rfl⟩ := eight h
  simp only [List.all_cons, List.all_nil, Bool.and_true, Bool.and_eq_true] at ha
  obtain ⟨a0, a1, a2, a3, a4, a5, a6, a7⟩ := ha
  obtain ⟨hb, e0, e1, e2, e3, e4, e5, e6, e7⟩ := digits8 (hexv_bd a0) (hexv_bd a1) (hexv_bd a2) (hexv_bd a3) (hexv_bd a4) (hexv_bd a5) (hexv_bd a6) (hexv_bd a7) (n := hexF [c0, c1, c2, c3, c4, c5, c6, c7]) rfl
  refine ⟨hb, ?_⟩
  generalize hexF [c0, c1, c2, c3, c4, c5, c6, c7] = n at *
  show [hexc (n / 268435456 % 16), hexc (n / 16777216 % 16), hexc (n / 1048576 % 16), hexc (n / 65536 % 16), hexc (n / 4096 % 16), hexc (n / 256 % 16), hexc (n / 16 % 16), hexc (n / 1 % 16)] = _
  rw [e0, e1, e2, e3, e4, e5, e6, e7, hexc_hexv a0, hexc_hexv a1, hexc_hexv a2, hexc_hexv a3, hexc_hexv a4, hexc_hexv a5, hexc_hexv a6, hexc_hexv a7]
theorem strOf_codes (s : ByteArray) : strOf (codes s) = s := by
  apply ByteArray.ext
  unfold strOf codes
  rw [List.map_map]
  have e : (fun x : Int => UInt8.ofNat x.toNat) ∘ (fun c : UInt8 => ((c.toNat : Nat) : Int)) = id := by
    funext c
    simp
  rw [e, List.map_id]
theorem rhexV_bd (s : ByteArray) : 0 ≤ rhexV s ∧ rhexV s < 4294967296 := hfold_bd _ 0 (by omega)
theorem str_ext {s t : ByteArray} (h : (s.toList == t.toList) = true) : s = t := by
  have h1 : s.toList = t.toList := by simpa using h
  have e : ∀ x : ByteArray, x.toList = x.data.toList := fun x => ByteArray.toList_eq x
  apply ByteArray.ext
  rw [e, e] at h1
  exact Array.toList_inj.1 h1
/-- word.OfHex says what the reference says. -/
theorem ofhex_ref (s : ByteArray) : ofHexV s = if (hexB (rhexV s)).toList == s.toList then (rhexV s, 0) else (0, 4) := by
  by_cases h : ((hexB (rhexV s)).toList == s.toList) = true
  · rw [if_pos h]
    have e := str_ext h
    have := hex_round (rhexV_bd s)
    rw [e] at this
    exact this
  · rw [if_neg h]
    unfold ofHexV
    by_cases h8 : s.size = 8 ∧ (codes s).all isHex = true
    · exfalso
      apply h
      obtain ⟨h1, h2⟩ := hex_inv (by rw [codes_len]; exact h8.1) h8.2
      have e : hexB (hexF (codes s)) = s := by unfold hexB; rw [h2, strOf_codes]
      have e2 := rhex_round h1
      rw [e] at e2
      rw [e2, e]
      simp
    · rw [if_neg h8]

end Go.Proofs.YtomenhpdkghlgaaDoor
