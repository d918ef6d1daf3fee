/- Contract of the reference's OfDec; its round trip. -/
import Derived.Test.YtomenhpdkghlgaaDoorWordRefDec
namespace Go.Proofs.YtomenhpdkghlgaaDoor
set_option linter.unusedVariables false
set_option linter.unusedSimpArgs false
open Go.RowKit Go.Sort Go.Lib

def dstep (n c : Int) : Int := if c = 45 then n else 10 * n + c - 48
def dfold (l : List Int) : Int := l.foldl dstep 0
/-- the text's first sign. -/
def minus (s : ByteArray) : Bool := (codes s).head? == some 45
def rdecV (s : ByteArray) : Int := W.wd (if minus s then -(dfold ((codes s).take 12)) else dfold ((codes s).take 12))

theorem dfold_take (s : ByteArray) (k : Nat) (h : k < s.size) : dfold ((codes s).take (k + 1)) = dstep (dfold ((codes s).take k)) (((s[k]'h).toNat : Nat) : Int) := fold_take dstep s k h
theorem codes_bd (s : ByteArray) : ∀ x ∈ codes s, 0 ≤ x ∧ x < 256 := by
  intro x hx
  obtain ⟨c, _, rfl⟩ := List.mem_map.1 hx
  have := UInt8.toNat_lt c
  omega
theorem dfold_bd (s : ByteArray) : ∀ k, k ≤ 12 → k ≤ s.size → -(1000 * 10 ^ k - 100) ≤ dfold ((codes s).take k) ∧ dfold ((codes s).take k) ≤ 1000 * 10 ^ k - 100
  | 0, _, _ => by
    show _ ≤ (0 : Int) ∧ (0 : Int) ≤ _
    omega
  | k + 1, h, hs => by
    have ih := dfold_bd s k (by omega) (by omega)
    have hp : (0 : Int) < 10 ^ k := Int.pow_pos (by decide)
    have hc := UInt8.toNat_lt (s[k]'(by omega))
    rw [dfold_take s k (by omega), Int.pow_succ]
    unfold dstep
    generalize (10 : Int) ^ k = p at *
    generalize dfold ((codes s).take k) = z at *
    split <;> omega
theorem pow12 {k : Nat} (h : k ≤ 12) : (10 : Int) ^ k ≤ 1000000000000 := by
  have h3 : (10 : Nat) ^ k ≤ 10 ^ 12 := Nat.pow_le_pow_right (by decide) h
  have e1 : ((10 ^ k : Nat) : Int) = (10 : Int) ^ k := by rw [Int.natCast_pow]; rfl
  have e2 : (10 : Nat) ^ 12 = 1000000000000 := by decide
  rw [← e1]; omega
theorem dfold_small (s : ByteArray) (k : Nat) (h : k ≤ 12) (hs : k ≤ s.size) : -1000000000000000 ≤ dfold ((codes s).take k) ∧ dfold ((codes s).take k) ≤ 1000000000000000 := by
  have h1 := dfold_bd s k h hs
  have h2 := pow12 h
  omega

theorem ne_of_bne {a b : Int} (h : (a != b) = true) : ¬ a = b := by simpa using h
theorem eq_of_bne {a b : Int} (h : (a != b) = false) : a = b := by simpa using h
theorem minus_at {s : ByteArray} (h : 0 < s.size) : minus s = decide ((((s[0]'h).toNat : Nat) : Int) = 45) := by
  have e := codes_at s 0 h
  unfold minus
  have e2 : (codes s).head? = some (((s[0]'h).toNat : Nat) : Int) := by
    have h1 : ((codes s).take 1).head? = some (((s[0]'h).toNat : Nat) : Int) := by rw [show 1 = 0 + 1 from rfl, e]; rfl
    cases hc : codes s with
    | nil => rw [hc] at h1; simp at h1
    | cons a l => rw [hc] at h1; simpa using h1
  rw [e2]
  rw [Bool.eq_iff_iff]
  simp
theorem minus_none {s : ByteArray} (h : ¬ 0 < s.size) : minus s = false := by
  have e : codes s = [] := List.length_eq_zero_iff.1 (by rw [codes_len]; omega)
  unfold minus
  rw [e]; rfl

set_option maxRecDepth 100000 in
set_option maxHeartbeats 4000000 in
theorem rofdec_walk (s : ByteArray) (w : World) (hs : s.size ≤ 100000) : Calls Tryd.prog 36 #[.string s] w fun e w' => e = .returned (.tuple #[.int .u32 (rdecV s), .bool ((decB (rdecV s)).toList == s.toList)]) ∧ Below w.heap.size w w' := by
  go_enter Tryd.func36, Tryd.ntmps36
  go_wp2_with fail
  go_loopw [4, 5] (fun x i wr => ∃ k : Nat, k ≤ s.size ∧ k ≤ 12 ∧ i = .int .i64 k ∧ x = .int .i64 (dfold ((codes s).take k)) ∧ wr = w) (fun _ i _ => 12 - (RowKit.intOf i).toNat)
  case atStart => exact ⟨0, by omega, by omega, rfl, rfl, rfl⟩
  case round =>
    obtain ⟨k, hk, hk9, rfl, rfl, rfl⟩ := hrel
    have hzb := dfold_small s k hk9 hk
    by_cases h1 : k < s.size
    · by_cases h2 : k < 12
      · have hst := dfold_take s k h1
        obtain ⟨x, hx⟩ : ∃ x, x = dfold ((codes s).take k) := ⟨_, rfl⟩
        rw [← hx] at hst hzb
        rw [← hx]
        obtain ⟨y, hy⟩ : ∃ y, y = dfold ((codes s).take (k + 1)) := ⟨_, rfl⟩
        rw [← hy] at hst
        have d1 : decide ((k : Int) < s.size) = true := decide_eq_true (by omega)
        have d2 : decide ((k : Int) < 12) = true := decide_eq_true (by omega)
        have hcb : (s[k]'h1).toNat < 256 := UInt8.toNat_lt _
        clear hx
        go_wp2_with fail
        all_goals
          go_roundw
          case rel => exact ⟨k + 1, by omega, by omega, by go_num, by rw [← hy, hst]; congr 1; unfold dstep; first | (rw [if_neg (ne_of_bne (by assumption))]) | (rw [if_pos (eq_of_bne (by assumption))]), by first | rfl | trivial⟩
          case measure => simp [RowKit.intOf]; omega
      · have d1 : decide ((k : Int) < s.size) = true := decide_eq_true (by omega)
        have d2 : decide ((k : Int) < 12) = false := decide_eq_false (by omega)
        have e : (codes s).take k = (codes s).take 12 := by rw [show k = 12 from by omega]
        rw [e] at hzb ⊢
        clear e
        obtain ⟨z, hz⟩ : ∃ z, z = dfold ((codes s).take 12) := ⟨_, rfl⟩
        rw [← hz] at hzb ⊢
        have hv : rdecV s = W.wd (if minus s then -z else z) := by unfold rdecV; rw [← hz]
        have HV := Lib.hid hv
        clear hz hv
        have hwn : wrap64 (-z) = -z := by unfold wrap64; omega
        by_cases h0 : 0 < s.size
        · have d3 : decide (0 < (s.size : Int)) = true := decide_eq_true (by omega)
          have hmin : minus s = decide ((((s[0]'h0).toNat : Nat) : Int) = 45) := minus_at h0
          by_cases hm : (((s[0]'h0).toNat : Nat) : Int) = 45
          · rw [decide_eq_true hm] at hmin
            have hx := HV.out
            rw [hmin, if_pos rfl] at hx
            have h7 := fun w => ref_word (-z) w (by omega)
            rw [← hx] at h7
            have hb := W.wd_lo (-z)
            have hb2 := W.wd_hi (-z)
            rw [← hx] at hb hb2
            clear hx hmin
            ( obtain ⟨x, hxx⟩ : ∃ x, x = rdecV s := ⟨_, rfl⟩ ; rw [← hxx] at h7 hb hb2 ; have h9 := fun w => rdec_walk x w ⟨hb, hb2⟩ ; obtain ⟨t, ht⟩ : ∃ t, t = decB x := ⟨_, rfl⟩ ; rw [← ht] at h9 ; have HT := Lib.hid ht ; have HX := Lib.hid hxx ; have H7 := Lib.hid h7 ; have H9 := Lib.hid h9 ; clear ht h9 h7 hxx ; go_wp2_with fail ; refine (H7.out _).mono ?_ ; rintro e w' ⟨rfl, rfl⟩ ; go_wp2_with fail ; refine (H9.out _).mono ?_ ; rintro e w1 ⟨rfl, hb1⟩ ; have B1 := Lib.hid hb1 ; clear hb1 ; go_wp2_with fail ; go_ret2 ; exact ⟨ret_wb HX.out (by rw [← HX.out, ← HT.out]), B1.out⟩)
          · rw [decide_eq_false hm] at hmin
            have hx := HV.out
            rw [hmin, if_neg (by simp)] at hx
            have h7 := fun w => ref_word z w (by omega)
            rw [← hx] at h7
            have hb := W.wd_lo z
            have hb2 := W.wd_hi z
            rw [← hx] at hb hb2
            clear hx hmin
            ( obtain ⟨x, hxx⟩ : ∃ x, x = rdecV s := ⟨_, rfl⟩ ; rw [← hxx] at h7 hb hb2 ; have h9 := fun w => rdec_walk x w ⟨hb, hb2⟩ ; obtain ⟨t, ht⟩ : ∃ t, t = decB x := ⟨_, rfl⟩ ; rw [← ht] at h9 ; have HT := Lib.hid ht ; have HX := Lib.hid hxx ; have H7 := Lib.hid h7 ; have H9 := Lib.hid h9 ; clear ht h9 h7 hxx ; go_wp2_with fail ; refine (H7.out _).mono ?_ ; rintro e w' ⟨rfl, rfl⟩ ; go_wp2_with fail ; refine (H9.out _).mono ?_ ; rintro e w1 ⟨rfl, hb1⟩ ; have B1 := Lib.hid hb1 ; clear hb1 ; go_wp2_with fail ; go_ret2 ; exact ⟨ret_wb HX.out (by rw [← HX.out, ← HT.out]), B1.out⟩)
        · have d3 : decide (0 < (s.size : Int)) = false := decide_eq_false (by omega)
          have hmin : minus s = false := minus_none h0
          have hx := HV.out
          rw [hmin, if_neg (by simp)] at hx
          have h7 := fun w => ref_word z w (by omega)
          rw [← hx] at h7
          have hb := W.wd_lo z
          have hb2 := W.wd_hi z
          rw [← hx] at hb hb2
          clear hx hmin
          ( obtain ⟨x, hxx⟩ : ∃ x, x = rdecV s := ⟨_, rfl⟩ ; rw [← hxx] at h7 hb hb2 ; have h9 := fun w => rdec_walk x w ⟨hb, hb2⟩ ; obtain ⟨t, ht⟩ : ∃ t, t = decB x := ⟨_, rfl⟩ ; rw [← ht] at h9 ; have HT := Lib.hid ht ; have HX := Lib.hid hxx ; have H7 := Lib.hid h7 ; have H9 := Lib.hid h9 ; clear ht h9 h7 hxx ; go_wp2_with fail ; refine (H7.out _).mono ?_ ; rintro e w' ⟨rfl, rfl⟩ ; go_wp2_with fail ; refine (H9.out _).mono ?_ ; rintro e w1 ⟨rfl, hb1⟩ ; have B1 := Lib.hid hb1 ; clear hb1 ; go_wp2_with fail ; go_ret2 ; exact ⟨ret_wb HX.out (by rw [← HX.out, ← HT.out]), B1.out⟩)
    · have d1 : decide ((k : Int) < s.size) = false := decide_eq_false (by omega)
      have e : (codes s).take k = (codes s).take 12 := by rw [List.take_of_length_le (by rw [codes_len]; omega), List.take_of_length_le (by rw [codes_len]; omega)]
      rw [e] at hzb ⊢
      clear e
      obtain ⟨z, hz⟩ : ∃ z, z = dfold ((codes s).take 12) := ⟨_, rfl⟩
      rw [← hz] at hzb ⊢
      have hv : rdecV s = W.wd (if minus s then -z else z) := by unfold rdecV; rw [← hz]
      have HV := Lib.hid hv
      clear hz hv
      have hwn : wrap64 (-z) = -z := by unfold wrap64; omega
      by_cases h0 : 0 < s.size
      · have d3 : decide (0 < (s.size : Int)) = true := decide_eq_true (by omega)
        have hmin : minus s = decide ((((s[0]'h0).toNat : Nat) : Int) = 45) := minus_at h0
        by_cases hm : (((s[0]'h0).toNat : Nat) : Int) = 45
        · rw [decide_eq_true hm] at hmin
          have hx := HV.out
          rw [hmin, if_pos rfl] at hx
          have h7 := fun w => ref_word (-z) w (by omega)
          rw [← hx] at h7
          have hb := W.wd_lo (-z)
          have hb2 := W.wd_hi (-z)
          rw [← hx] at hb hb2
          clear hx hmin
          ( obtain ⟨x, hxx⟩ : ∃ x, x = rdecV s := ⟨_, rfl⟩ ; rw [← hxx] at h7 hb hb2 ; have h9 := fun w => rdec_walk x w ⟨hb, hb2⟩ ; obtain ⟨t, ht⟩ : ∃ t, t = decB x := ⟨_, rfl⟩ ; rw [← ht] at h9 ; have HT := Lib.hid ht ; have HX := Lib.hid hxx ; have H7 := Lib.hid h7 ; have H9 := Lib.hid h9 ; clear ht h9 h7 hxx ; go_wp2_with fail ; refine (H7.out _).mono ?_ ; rintro e w' ⟨rfl, rfl⟩ ; go_wp2_with fail ; refine (H9.out _).mono ?_ ; rintro e w1 ⟨rfl, hb1⟩ ; have B1 := Lib.hid hb1 ; clear hb1 ; go_wp2_with fail ; go_ret2 ; exact ⟨ret_wb HX.out (by rw [← HX.out, ← HT.out]), B1.out⟩)
        · rw [decide_eq_false hm] at hmin
          have hx := HV.out
          rw [hmin, if_neg (by simp)] at hx
          have h7 := fun w => ref_word z w (by omega)
          rw [← hx] at h7
          have hb := W.wd_lo z
          have hb2 := W.wd_hi z
          rw [← hx] at hb hb2
          clear hx hmin
          ( obtain ⟨x, hxx⟩ : ∃ x, x = rdecV s := ⟨_, rfl⟩ ; rw [← hxx] at h7 hb hb2 ; have h9 := fun w => rdec_walk x w ⟨hb, hb2⟩ ; obtain ⟨t, ht⟩ : ∃ t, t = decB x := ⟨_, rfl⟩ ; rw [← ht] at h9 ; have HT := Lib.hid ht ; have HX := Lib.hid hxx ; have H7 := Lib.hid h7 ; have H9 := Lib.hid h9 ; clear ht h9 h7 hxx ; go_wp2_with fail ; refine (H7.out _).mono ?_ ; rintro e w' ⟨rfl, rfl⟩ ; go_wp2_with fail ; refine (H9.out _).mono ?_ ; rintro e w1 ⟨rfl, hb1⟩ ; have B1 := Lib.hid hb1 ; clear hb1 ; go_wp2_with fail ; go_ret2 ; exact ⟨ret_wb HX.out (by rw [← HX.out, ← HT.out]), B1.out⟩)
      · have d3 : decide (0 < (s.size : Int)) = false := decide_eq_false (by omega)
        have hmin : minus s = false := minus_none h0
        have hx := HV.out
        rw [hmin, if_neg (by simp)] at hx
        have h7 := fun w => ref_word z w (by omega)
        rw [← hx] at h7
        have hb := W.wd_lo z
        have hb2 := W.wd_hi z
        rw [← hx] at hb hb2
        clear hx hmin
        ( obtain ⟨x, hxx⟩ : ∃ x, x = rdecV s := ⟨_, rfl⟩ ; rw [← hxx] at h7 hb hb2 ; have h9 := fun w => rdec_walk x w ⟨hb, hb2⟩ ; obtain ⟨t, ht⟩ : ∃ t, t = decB x := ⟨_, rfl⟩ ; rw [← ht] at h9 ; have HT := Lib.hid ht ; have HX := Lib.hid hxx ; have H7 := Lib.hid h7 ; have H9 := Lib.hid h9 ; clear ht h9 h7 hxx ; go_wp2_with fail ; refine (H7.out _).mono ?_ ; rintro e w' ⟨rfl, rfl⟩ ; go_wp2_with fail ; refine (H9.out _).mono ?_ ; rintro e w1 ⟨rfl, hb1⟩ ; have B1 := Lib.hid hb1 ; clear hb1 ; go_wp2_with fail ; go_ret2 ; exact ⟨ret_wb HX.out (by rw [← HX.out, ← HT.out]), B1.out⟩)

/-! ### its round trip -/
theorem dfold_digits : ∀ (u : Nat) (acc : Int), ((decDigits u).map fun c => ((c.toNat : Nat) : Int)).foldl dstep acc = acc * 10 ^ nDigits u + u := by
  intro u
  induction u using Nat.strongRecOn with
  | _ u ih =>
    intro acc
    have one : ∀ (v : Nat) (z : Int), v < 10 → dstep z (((UInt8.ofNat (48 + v)).toNat : Nat) : Int) = 10 * z + v := by
      intro v z hv
      have e : (UInt8.ofNat (48 + v)).toNat = 48 + v := by
        rw [UInt8.toNat_ofNat']; exact Nat.mod_eq_of_lt (by omega)
      rw [e]
      unfold dstep
      rw [if_neg (by omega)]
      omega
    by_cases hu : u < 10
    · rw [decDigits, dif_pos hu, nDigits_small hu]
      show dstep acc _ = _
      rw [one u acc hu]; omega
    · rw [decDigits, dif_neg hu, nDigits_big hu, List.map_append, List.foldl_append, ih (u / 10) (by omega) acc]
      show dstep _ _ = _
      rw [one (u % 10) _ (by omega), Int.pow_succ, ← Int.mul_assoc]
      generalize acc * 10 ^ nDigits (u / 10) = z
      omega
theorem pow_lt_nDigits (u : Nat) (h : 10 < nDigits u) : 10000000000 ≤ u := by
  rcases Nat.lt_or_ge u 10000000000 with h1 | h1
  · exfalso
    have key : ∀ k v : Nat, v < 10 ^ (k + 1) → nDigits v ≤ k + 1 := by
      intro k
      induction k with
      | zero => intro v hv; rw [nDigits_small (by omega)]; omega
      | succ k ih =>
        intro v hv
        by_cases hs : v < 10
        · rw [nDigits_small hs]; omega
        · rw [nDigits_big hs]
          have := ih (v / 10) (by rw [Nat.pow_succ] at hv; omega)
          omega
    have := key 9 u (by omega)
    omega
  · exact h1
theorem nDigits_ten {u : Nat} (h : u ≤ 2147483648) : nDigits u ≤ 10 := by
  rcases Nat.lt_or_ge 10 (nDigits u) with h1 | h1
  · exfalso
    have h2 := pow_lt_nDigits u h1
    omega
  · exact h1
theorem codes_mk (ds : List UInt8) : codes ⟨ds.toArray⟩ = ds.map fun c => ((c.toNat : Nat) : Int) := by simp [codes]
theorem rdec_round {a : Int} (ha : 0 ≤ a ∧ a < 4294967296) : rdecV (decB a) = a := by
  have hb := W.sg_bd ha.1 ha.2
  have hw := W.sg_wd ha.1 ha.2
  unfold rdecV minus decB itoa
  by_cases hn : W.sg a < 0
  · rw [if_pos hn, codes_mk, List.map_cons]
    have hl := decDigits_length (W.sg a).natAbs
    have ht := nDigits_ten (u := (W.sg a).natAbs) (by omega)
    rw [List.take_of_length_le (by simp; omega)]
    have e : dfold ((((45 : UInt8).toNat : Nat) : Int) :: (decDigits (W.sg a).natAbs).map fun c => ((c.toNat : Nat) : Int)) = ((W.sg a).natAbs : Int) := by
      unfold dfold
      rw [List.foldl_cons, dfold_digits]
      show dstep 0 45 * _ + _ = _
      have : dstep 0 45 = 0 := rfl
      rw [this]; omega
    rw [e]
    have e3 : ((((45 : UInt8).toNat : Nat) : Int) :: (decDigits (W.sg a).natAbs).map fun c => ((c.toNat : Nat) : Int)).head? == some 45 := rfl
    rw [if_pos e3, show -((W.sg a).natAbs : Int) = W.sg a from by omega, hw]
  · rw [if_neg hn, codes_mk]
    have hl := decDigits_length (W.sg a).toNat
    have ht := nDigits_ten (u := (W.sg a).toNat) (by omega)
    rw [List.take_of_length_le (by simp; omega)]
    have e : dfold ((decDigits (W.sg a).toNat).map fun c => ((c.toNat : Nat) : Int)) = ((W.sg a).toNat : Int) := by
      unfold dfold
      rw [dfold_digits]; omega
    rw [e]
    obtain ⟨c, r, h1, h2, h3⟩ := digit_head (W.sg a).toNat
    rw [h1, List.map_cons]
    have e3 : ¬ (((((c.toNat : Nat) : Int) :: r.map fun c => ((c.toNat : Nat) : Int)).head? == some 45) = true) := by
      simp; omega
    rw [if_neg e3, show ((W.sg a).toNat : Int) = W.sg a from by omega, hw]
theorem rdecV_bd (s : ByteArray) : 0 ≤ rdecV s ∧ rdecV s < 4294967296 := ⟨W.wd_lo _, W.wd_hi _⟩
theorem ofDec_ok {s : ByteArray} (h : ¬ ofDecV s = (0, 4)) : ∃ a, (0 ≤ a ∧ a < 4294967296) ∧ decB a = s := by
  unfold ofDecV at h
  split at h
  · rename_i v hv
    split at h
    · rename_i hq
      exact ⟨W.wd v, ⟨W.wd_lo _, W.wd_hi _⟩, str_ext hq⟩
    · exact absurd rfl h
  · exact absurd rfl h
/-- word.OfDec says what the reference says. -/
theorem ofdec_ref (s : ByteArray) : ofDecV s = if (decB (rdecV s)).toList == s.toList then (rdecV s, 0) else (0, 4) := by
  by_cases h : ((decB (rdecV s)).toList == s.toList) = true
  · rw [if_pos h]
    have e := str_ext h
    have := dec_round (rdecV_bd s)
    rw [e] at this
    exact this
  · rw [if_neg h]
    by_cases h4 : ofDecV s = (0, 4)
    · exact h4
    · exfalso
      obtain ⟨a, ha, rfl⟩ := ofDec_ok h4
      rw [rdec_round ha] at h
      exact h (by simp)

end Go.Proofs.YtomenhpdkghlgaaDoor
