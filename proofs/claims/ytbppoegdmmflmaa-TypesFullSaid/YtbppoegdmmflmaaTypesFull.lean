/- There are just so many types as may be, whatever makes them. -/
import Derived.Test.YtbppoegdmmflmaaTabFive
import Derived.Test.YtbppoegdmmflmaaRd
namespace Go.Proofs.Ytbppoegdmmflmaa
set_option linter.unusedVariables false
set_option linter.unusedSimpArgs false
open Go.RowKit

/-- what a table is behind k makings. -/
structure Fulls (L : List Ty) (k : Nat) : Prop where
  len : L.length = if k ≤ 194 then 7 + k else 201
  int : L[1]? = some (bas 4)
theorem Fulls.zero : Fulls tab0 0 := ⟨rfl, rfl⟩
theorem Fulls.next {L : List Ty} {k : Nat} (h : Fulls L k) (x : Ty) : Fulls (addL L x) (k + 1) := by
  have := h.len
  unfold addL
  by_cases hk : k ≤ 194
  · rw [if_pos hk] at this
    by_cases hl : L.length ≤ 200
    · rw [if_pos hl]
      exact ⟨by rw [List.length_append, if_pos (by omega)]; simp; omega, by rw [List.getElem?_append_left (by omega)]; exact h.int⟩
    · rw [if_neg hl]
      exact ⟨by rw [if_neg (by omega)]; omega, h.int⟩
  · rw [if_neg hk] at this
    rw [if_neg (by omega)]
    exact ⟨by rw [if_neg (by omega)]; exact this, h.int⟩
theorem Fulls.yes {L : List Ty} {k : Nat} (h : Fulls L k) (hk : k < 194) : addN L = 7 + (k : Int) ∧ addE L = 0 := by
  have := h.len
  rw [if_pos (by omega)] at this
  unfold addN addE
  rw [if_pos (by omega), if_pos (by omega), this]
  exact ⟨by omega, rfl⟩
theorem Fulls.no {L : List Ty} {k : Nat} (h : Fulls L k) (hk : ¬ k < 194) : addN L = 0 ∧ addE L = 64 := by
  have := h.len
  have : 200 < L.length := by split at this <;> omega
  unfold addN addE
  rw [if_neg (by omega), if_neg (by omega)]
  exact ⟨rfl, rfl⟩
theorem Fulls.in1 {L : List Ty} {k : Nat} (h : Fulls L k) : inB L 1 = true := by
  have := h.len
  have : 2 ≤ L.length := by split at this <;> omega
  exact in_yes (r := 1) (by omega) (by decide)
theorem Fulls.size1 {L : List Ty} {k : Nat} (h : Fulls L k) : sizeB L 1 = 4 := size_yes (r := 1) h.int (by decide)
theorem Fulls.one {L : List Ty} {k : Nat} (h : Fulls L k) : 1 ≤ L.length := by have := h.len; split at this <;> omega
theorem Fulls.arr {L : List Ty} {k : Nat} (h : Fulls L k) : arrOk L 1 1 := ⟨h.in1, by decide, by decide, by rw [h.size1]; decide, by rw [h.size1]; decide⟩

set_option maxRecDepth 20000 in
set_option maxHeartbeats 8000000 in
theorem full_walk (a : Option Addr) (c : Nat) (l : List Int) (w : World) (hl : RdI .i64 w a c l) :
    Calls Try.prog 4 #[.slice a l.length c] w fun e w' => e = .returned (.bool true) ∧ Below w.heap.size w w' := by
  have HL := Lib.hid hl
  have hlen : l.length ≤ 9223372036854775807 := by have := hl.row.le; have := hl.row.cap; unfold maxLen at *; omega
  obtain ⟨n, hn⟩ : ∃ n, n = l.length := ⟨_, rfl⟩
  rw [← hn] at hlen ⊢
  have HN := Lib.hid hn
  clear hn hl
  go_enter Try.func4, Try.ntmps4
  by_cases hbig : 300 < n
  · have i0 : (300 : Int) < n := by omega
    go_wp2_with fail
    refine (known_walk _).mono ?_
    rintro e w4 ⟨rfl, hb4⟩
    have HB4 := Lib.hid hb4
    clear hb4
    go_wp2_with fail
    go_ret
    exact ⟨rfl, HB4.out⟩
  · have i0 : (n : Int) ≤ 300 := by omega
    go_wp2_with fail
    refine (new_walk w).mono ?_
    rintro e w1 ⟨g, rfl, T1, hb1⟩
    have HT1 := Lib.hid T1
    have HB1 := Lib.hid hb1
    clear T1 hb1
    go_wp2_with fail
    go_loopw [4] (fun i wr => ∃ (k : Nat) (L : List Ty), k ≤ n ∧ i = .int .i64 k ∧ Fulls L k ∧ Tab w.heap.size wr g L 0 [] ∧ Below w.heap.size w wr) (fun i _ => n - (intOf i).toNat)
    case atStart => exact ⟨0, tab0, Nat.zero_le _, rfl, Fulls.zero, HT1.out, HB1.out⟩
    case round =>
      obtain ⟨k, L, hk, rfl, hf, T, hb⟩ := hrel
      have HT := Lib.hid T
      have HB := Lib.hid hb
      have HF := Lib.hid hf
      clear T hb hf
      by_cases hlt : k < n
      · obtain ⟨x, b, o, rfl, hx, hbl⟩ : ∃ x b o, a = some ⟨b, o, none⟩ ∧ w.cell? ⟨b, o + k, none⟩ = some (.int .i64 x) ∧ b < w.heap.size := by
          have hkl : k < l.length := by rw [← HN.out]; exact hlt
          obtain ⟨b, o, h1, h2⟩ := HL.out.row.at'
          obtain ⟨h3, h4⟩ := h1 (by rw [List.length_map]; omega)
          exact ⟨l[k], b, o, h3, h2 k _ (by rw [List.getElem?_map, List.getElem?_eq_getElem hkl]; rfl), h4⟩
        have i1 : (k : Int) < n := by omega
        have i2 : (0 : Int) ≤ k := by omega
        have cx := (HB.out.cell (p := ⟨b, _, none⟩) hbl).trans hx
        obtain ⟨y, hy⟩ : ∃ y, y = Int.tmod x 5 := ⟨_, rfl⟩
        have hy1 : -4 ≤ y ∧ y ≤ 4 := by rw [hy]; have h1 := Int.lt_tmod_of_pos x (show (0 : Int) < 5 by decide); have h2 := Int.tmod_lt_of_pos x (show (0 : Int) < 5 by decide); omega
        have e1 := hy.symm
        have hB := HB.out.size
        have hone := HF.out.one
        have HA0 := Lib.hid (((array_walk HT.out hB hone 1 1 (by rw [HF.out.size1]; decide)).mono (fun e w' h => h.1 HF.out.arr)))
        have HA1 := Lib.hid (open_walk HT.out hB hone 1 HF.out.in1)
        have HA2 := Lib.hid (record_walk HT.out hB hone)
        have HA3 := Lib.hid (pointer0_walk HT.out hB hone)
        have HA4 := Lib.hid (import_walk HT.out hB hone (by decide))
        clear hy hx hbl hB hone
        obtain ⟨z, hz⟩ : ∃ z, z = Int.tmod (y + 5) 5 := ⟨_, rfl⟩
        have hz1 : z = 0 ∨ z = 1 ∨ z = 2 ∨ z = 3 ∨ z = 4 := by rw [hz, Int.tmod_eq_emod_of_nonneg (by omega)]; omega
        have e2 := hz.symm
        clear hz
        rcases hz1 with rfl | rfl | rfl | rfl | rfl
        · go_wp2_with fail
          refine HA0.out.mono ?_
          ( rintro e w3 ⟨rfl, T3, hb3⟩ ; have HT3 := Lib.hid T3 ; have HB3 := Lib.hid (HB.out.trans hb3) ; clear T3 hb3 ; by_cases h194 : k < 194 ; (case pos => rw [(HF.out.yes h194).1, (HF.out.yes h194).2] ; have j1 : (k : Int) < 194 := (by omega) ; go_wp2_with fail ; go_roundw ; (case rel => exact ⟨k + 1, _, by omega, by go_num, HF.out.next _, HT3.out, HB3.out⟩) ; (case measure => simp [intOf]; omega)) ; (case neg => rw [(HF.out.no h194).1, (HF.out.no h194).2] ; have j1 : (194 : Int) ≤ k := (by omega) ; go_wp2_with fail ; go_roundw ; (case rel => exact ⟨k + 1, _, by omega, by go_num, HF.out.next _, HT3.out, HB3.out⟩) ; (case measure => simp [intOf]; omega)))
        · go_wp2_with fail
          refine HA1.out.mono ?_
          ( rintro e w3 ⟨rfl, T3, hb3⟩ ; have HT3 := Lib.hid T3 ; have HB3 := Lib.hid (HB.out.trans hb3) ; clear T3 hb3 ; by_cases h194 : k < 194 ; (case pos => rw [(HF.out.yes h194).1, (HF.out.yes h194).2] ; have j1 : (k : Int) < 194 := (by omega) ; go_wp2_with fail ; go_roundw ; (case rel => exact ⟨k + 1, _, by omega, by go_num, HF.out.next _, HT3.out, HB3.out⟩) ; (case measure => simp [intOf]; omega)) ; (case neg => rw [(HF.out.no h194).1, (HF.out.no h194).2] ; have j1 : (194 : Int) ≤ k := (by omega) ; go_wp2_with fail ; go_roundw ; (case rel => exact ⟨k + 1, _, by omega, by go_num, HF.out.next _, HT3.out, HB3.out⟩) ; (case measure => simp [intOf]; omega)))
        · go_wp2_with fail
          refine HA2.out.mono ?_
          ( rintro e w3 ⟨rfl, T3, hb3⟩ ; have HT3 := Lib.hid T3 ; have HB3 := Lib.hid (HB.out.trans hb3) ; clear T3 hb3 ; by_cases h194 : k < 194 ; (case pos => rw [(HF.out.yes h194).1, (HF.out.yes h194).2] ; have j1 : (k : Int) < 194 := (by omega) ; go_wp2_with fail ; go_roundw ; (case rel => exact ⟨k + 1, _, by omega, by go_num, HF.out.next _, HT3.out, HB3.out⟩) ; (case measure => simp [intOf]; omega)) ; (case neg => rw [(HF.out.no h194).1, (HF.out.no h194).2] ; have j1 : (194 : Int) ≤ k := (by omega) ; go_wp2_with fail ; go_roundw ; (case rel => exact ⟨k + 1, _, by omega, by go_num, HF.out.next _, HT3.out, HB3.out⟩) ; (case measure => simp [intOf]; omega)))
        · go_wp2_with fail
          refine HA3.out.mono ?_
          ( rintro e w3 ⟨rfl, T3, hb3⟩ ; have HT3 := Lib.hid T3 ; have HB3 := Lib.hid (HB.out.trans hb3) ; clear T3 hb3 ; by_cases h194 : k < 194 ; (case pos => rw [(HF.out.yes h194).1, (HF.out.yes h194).2] ; have j1 : (k : Int) < 194 := (by omega) ; go_wp2_with fail ; go_roundw ; (case rel => exact ⟨k + 1, _, by omega, by go_num, HF.out.next _, HT3.out, HB3.out⟩) ; (case measure => simp [intOf]; omega)) ; (case neg => rw [(HF.out.no h194).1, (HF.out.no h194).2] ; have j1 : (194 : Int) ≤ k := (by omega) ; go_wp2_with fail ; go_roundw ; (case rel => exact ⟨k + 1, _, by omega, by go_num, HF.out.next _, HT3.out, HB3.out⟩) ; (case measure => simp [intOf]; omega)))
        · go_wp2_with fail
          refine HA4.out.mono ?_
          ( rintro e w3 ⟨rfl, T3, hb3⟩ ; have HT3 := Lib.hid T3 ; have HB3 := Lib.hid (HB.out.trans hb3) ; clear T3 hb3 ; by_cases h194 : k < 194 ; (case pos => rw [(HF.out.yes h194).1, (HF.out.yes h194).2] ; have j1 : (k : Int) < 194 := (by omega) ; go_wp2_with fail ; go_roundw ; (case rel => exact ⟨k + 1, _, by omega, by go_num, HF.out.next _, HT3.out, HB3.out⟩) ; (case measure => simp [intOf]; omega)) ; (case neg => rw [(HF.out.no h194).1, (HF.out.no h194).2] ; have j1 : (194 : Int) ≤ k := (by omega) ; go_wp2_with fail ; go_roundw ; (case rel => exact ⟨k + 1, _, by omega, by go_num, HF.out.next _, HT3.out, HB3.out⟩) ; (case measure => simp [intOf]; omega)))
      · obtain rfl : k = n := by omega
        have hll := len_walk HT.out HF.out.one
        by_cases h194 : k ≤ 194
        · have he : ((L.length : Nat) : Int) - 1 = 6 + k := by have := HF.out.len; rw [if_pos h194] at this; omega
          rw [he] at hll
          have HLn := Lib.hid hll
          clear hll he
          go_wp2_with fail
          refine HLn.out.mono ?_
          rintro e w3 ⟨rfl, rfl⟩
          go_wp2_with fail
          refine (known_walk _).mono ?_
          rintro e w4 ⟨rfl, hb4⟩
          have HB4 := Lib.hid (bel_then HB.out hb4)
          clear hb4
          go_wp2_with fail
          go_ret
          exact ⟨rfl, HB4.out⟩
        · have he : ((L.length : Nat) : Int) - 1 = 200 := by have := HF.out.len; rw [if_neg h194] at this; omega
          rw [he] at hll
          have HLn := Lib.hid hll
          have j1 : (194 : Int) < k := by omega
          clear hll he
          go_wp2_with fail
          refine HLn.out.mono ?_
          rintro e w3 ⟨rfl, rfl⟩
          go_wp2_with fail
          refine HLn.out.mono ?_
          rintro e w3 ⟨rfl, rfl⟩
          go_wp2_with fail
          refine (known_walk _).mono ?_
          rintro e w4 ⟨rfl, hb4⟩
          have HB4 := Lib.hid (bel_then HB.out hb4)
          clear hb4
          go_wp2_with fail
          go_ret
          exact ⟨rfl, HB4.out⟩

end Go.Proofs.Ytbppoegdmmflmaa
