/- Sizes of arrays of arrays. -/
import Derived.Test.YtbppoegdmmflmaaTabKnown
namespace Go.Proofs.Ytbppoegdmmflmaa
set_option linter.unusedVariables false
set_option linter.unusedSimpArgs false
open Go.RowKit

theorem size_new {L : List Ty} {x : Ty} (h1 : 1 ≤ L.length) : sizeB (L ++ [x]) (L.length : Int) = x.size :=
  size_yes (r := L.length) (t := x) (by simp) h1
theorem size0 (n : Int) : 0 ≤ sizeB tab0 n ∧ sizeB tab0 n ≤ 262144 := by
  cases hi : inB tab0 n with
  | false => unfold sizeB; rw [hi]; exact ⟨by simp, by simp⟩
  | true =>
    obtain ⟨k, t, rfl, hk, ht, hlt⟩ := in_get hi
    unfold sizeB
    rw [hi, ht]
    have : k = 0 ∨ k = 1 ∨ k = 2 ∨ k = 3 ∨ k = 4 ∨ k = 5 ∨ k = 6 := by have : tab0.length = 7 := rfl; omega
    rcases this with rfl | rfl | rfl | rfl | rfl | rfl | rfl <;> (cases hk; exact ⟨by decide, by decide⟩)
theorem arr_ok {L : List Ty} {x n s : Int} (hs : s = sizeB L n) (h1 : 1 ≤ s) (h2 : 1 ≤ x) (h3 : x ≤ 65535) (h4 : s * x ≤ 262144) : arrOk L x n := by
  subst hs
  refine ⟨?_, h2, h3, h1, ?_⟩
  · cases hi : inB L n with
    | true => rfl
    | false => unfold sizeB at h1; rw [hi] at h1; simp at h1
  · rw [Int.le_ediv_iff_mul_le (by omega), Int.mul_comm]; exact h4
theorem arr_no {L : List Ty} {x n s : Int} (hs : s = sizeB L n) (h : s < 1 ∨ x < 1 ∨ 65535 < x ∨ 262144 < s * x) : ¬ arrOk L x n := by
  subst hs
  rintro ⟨_, h2, h3, h1, h4⟩
  rw [Int.le_ediv_iff_mul_le (by omega), Int.mul_comm] at h4
  omega

set_option maxRecDepth 20000 in
set_option maxHeartbeats 8000000 in
theorem arrays_walk (a : Option Addr) (c : Nat) (l : List Int) (base : Int) (w : World) (hl : RdI .i64 w a c l) (_ : IntKind.i64.min ≤ base ∧ base ≤ IntKind.i64.max) :
    Calls Try.prog 3 #[.slice a l.length c, .int .i64 base] w fun e w' => e = .returned (.bool true) ∧ Below w.heap.size w w' := by
  have HL := Lib.hid hl
  have hlen : l.length ≤ 9223372036854775807 := by have := hl.row.le; have := hl.row.cap; unfold maxLen at *; omega
  obtain ⟨n, hn⟩ : ∃ n, n = l.length := ⟨_, rfl⟩
  rw [← hn] at hlen ⊢
  have HN := Lib.hid hn
  clear hn hl
  go_enter Try.func3, Try.ntmps3
  by_cases hbig : 6 < n
  · have i0 : (6 : Int) < n := by omega
    go_wp2_with fail
    refine (known_walk _).mono ?_
    rintro e w4 ⟨rfl, hb4⟩
    have HB4 := Lib.hid hb4
    clear hb4
    go_wp2_with fail
    go_ret
    exact ⟨rfl, HB4.out⟩
  · have i0 : (n : Int) ≤ 6 := by omega
    go_wp2_with fail
    refine (new_walk w).mono ?_
    rintro e w1 ⟨g, rfl, T1, hb1⟩
    have HT1 := Lib.hid T1
    have HB1 := Lib.hid hb1
    clear T1 hb1
    go_wp2_with fail
    refine (size_walk HT1.out base).mono ?_
    rintro e w2 ⟨rfl, rfl⟩
    go_wp2_with fail
    obtain ⟨s0, hs0⟩ : ∃ s0, s0 = sizeB tab0 base := ⟨_, rfl⟩
    rw [← hs0]
    have HS0 := Lib.hid hs0
    clear hs0
    go_loopw [8, 6, 7, 9, 10, 11] (fun i nn ss kk ee bb wr => ∃ (k : Nat) (m s : Int) (L : List Ty), k ≤ n ∧ i = .int .i64 k ∧ nn = .int .i64 m ∧ ss = .int .i64 s ∧ s = sizeB L m ∧ 0 ≤ s ∧ s ≤ 262144 ∧ L.length = 7 + k ∧ Tab w.heap.size wr g L 0 [] ∧ Below w.heap.size w wr) (fun i _ _ _ _ _ _ => n - (intOf i).toNat)
    case atStart => exact ⟨0, base, s0, tab0, Nat.zero_le _, rfl, rfl, rfl, HS0.out, by rw [HS0.out]; exact (size0 base).1, by rw [HS0.out]; exact (size0 base).2, rfl, HT1.out, HB1.out⟩
    case round =>
      obtain ⟨k, m, s, L, hk, rfl, rfl, rfl, hs, hs1, hs2, hL, T, hb⟩ := hrel
      have HT := Lib.hid T
      have HB := Lib.hid hb
      have HSS := Lib.hid hs
      have HLL := Lib.hid hL
      clear T hb hs hL
      by_cases hlt : k < n
      · obtain ⟨x, b, o, rfl, hx, hbl, hx1, hx2⟩ : ∃ x b o, a = some ⟨b, o, none⟩ ∧ w.cell? ⟨b, o + k, none⟩ = some (.int .i64 x) ∧ b < w.heap.size ∧ -9223372036854775808 ≤ x ∧ x ≤ 9223372036854775807 := by
          have hkl : k < l.length := by rw [← HN.out]; exact hlt
          obtain ⟨b, o, h1, h2⟩ := HL.out.row.at'
          obtain ⟨h3, h4⟩ := h1 (by rw [List.length_map]; omega)
          have h5 := HL.out.bd _ (List.getElem_mem hkl)
          exact ⟨l[k], b, o, h3, h2 k _ (by rw [List.getElem?_map, List.getElem?_eq_getElem hkl]; rfl), h4, h5.1, h5.2⟩
        have i1 : (k : Int) < n := by omega
        have i2 : (0 : Int) ≤ k := by omega
        have cx := (HB.out.cell (p := ⟨b, _, none⟩) hbl).trans hx
        have HX := Lib.hid hx
        have HBL := Lib.hid hbl
        have HA := Lib.hid (array_walk HT.out HB.out.size (by rw [HLL.out]; omega) x m (by rw [← HSS.out]; omega))
        clear hx hbl
        go_wp2_with fail
        refine HA.out.mono ?_
        rintro e w3 ⟨hok, hno⟩
        by_cases h1 : 1 ≤ s ∧ 1 ≤ x ∧ x ≤ 65535 ∧ s * x ≤ 262144
        · obtain ⟨h1, h2, h3, h4⟩ := h1
          obtain ⟨rfl, T3, hb3⟩ := hok (arr_ok HSS.out h1 h2 h3 h4)
          clear hno
          have h5 : 0 ≤ s * x := Int.mul_nonneg (by omega) (by omega)
          have hLl : L.length ≤ 200 := by rw [HLL.out]; omega
          have T4 : Tab w.heap.size w3 g (L ++ [arrTy L x m]) 0 [] := by rw [show addL L (arrTy L x m) = L ++ [arrTy L x m] from if_pos hLl] at T3; exact T3
          have HT4 := Lib.hid T4
          have cx3 := ((HB.out.trans hb3).cell (p := ⟨b, _, none⟩) HBL.out).trans HX.out
          have HB3 := Lib.hid (HB.out.trans hb3)
          rw [show addN L = ((L.length : Nat) : Int) from if_pos hLl, show addE L = 0 from if_pos hLl, HLL.out]
          clear T3 T4 hb3 cx hLl hok
          have d1 : decide (s < 1) = false := decide_eq_false (by omega)
          have d2 : decide (x < 1) = false := decide_eq_false (by omega)
          have d3 : decide (65535 < x) = false := decide_eq_false (by omega)
          go_wp2_with fail
          obtain ⟨p, hp⟩ : ∃ p, p = s * x := ⟨_, rfl⟩
          rw [← hp] at h4 h5 ⊢
          obtain ⟨U, hU⟩ : ∃ U, U = upB p := ⟨_, rfl⟩
          have u1 : p ≤ U ∧ U ≤ p + 3 ∧ U % 4 = 0 := by rw [hU]; unfold upB; omega
          have HZ : Hid (sizeB (L ++ [arrTy L x m]) (L.length : Int) = U) := Lib.hid (by rw [size_new (by rw [HLL.out]; omega), hU, hp]; unfold arrTy; rw [← HSS.out, Int.mul_comm])
          have HU := Lib.hid u1
          clear hp hU cx3
          go_loopw [7] (fun ss wr' => wr' = w3 ∧ ∃ q : Int, ss = .int .i64 q ∧ p ≤ q ∧ q ≤ U) (fun ss _ => (U - intOf ss).toNat)
          case atStart => exact ⟨rfl, p, rfl, Int.le_refl _, HU.out.1⟩
          case round =>
            obtain ⟨rfl, q, rfl, hq1, hq2⟩ := hrel
            have t1 : Int.tmod q 4 = q % 4 := Int.tmod_eq_emod_of_nonneg (by omega)
            have u2 : U ≤ 262147 := by have := HU.out; omega
            by_cases hz : q % 4 = 0
            · obtain rfl : q = U := by have := HU.out; omega
              go_wp2_with fail
              have hzz := size_walk HT4.out ((L.length : Nat) : Int)
              rw [HZ.out, HLL.out] at hzz
              refine hzz.mono ?_
              rintro e w5 ⟨rfl, rfl⟩
              go_wp2_with fail
              go_roundw
              case rel =>
                have hU := HU.out
                have e7 : ((L.length : Nat) : Int) = 7 + (k : Int) := by have := HLL.out; omega
                have hz2 := HZ.out
                rw [e7] at hz2
                exact ⟨k + 1, 7 + k, q, L ++ [arrTy L x m], by omega, by go_num, rfl, rfl, hz2.symm, by omega, by omega, by rw [List.length_append, HLL.out]; simp; omega, HT4.out, HB3.out⟩
              case measure => simp [intOf]; omega
            · have hlt2 : q < U := by have := HU.out; omega
              go_wp2_with fail
              go_roundw
              case rel => exact ⟨trivial, q + 1, by go_num, by omega, by omega⟩
              case measure => simp [intOf]; omega
        · have h2 : ¬ arrOk L x m := arr_no HSS.out (by omega)
          obtain ⟨rfl, rfl⟩ := hno h2
          clear hno hok h2
          by_cases c1 : s < 1
          · have d1 : decide (s < 1) = true := decide_eq_true c1
            ( go_wp2_with fail ; refine (known_walk _).mono ?_ ; rintro e w4 ⟨rfl, hb4⟩ ; have HB4 := Lib.hid (bel_then HB.out hb4) ; clear hb4 ; go_wp2_with fail ; go_ret ; exact ⟨rfl, HB4.out⟩)
          · have d1 : decide (s < 1) = false := decide_eq_false c1
            by_cases c2 : x < 1
            · have d2 : decide (x < 1) = true := decide_eq_true c2
              ( go_wp2_with fail ; refine (known_walk _).mono ?_ ; rintro e w4 ⟨rfl, hb4⟩ ; have HB4 := Lib.hid (bel_then HB.out hb4) ; clear hb4 ; go_wp2_with fail ; go_ret ; exact ⟨rfl, HB4.out⟩)
            · have d2 : decide (x < 1) = false := decide_eq_false c2
              by_cases c3 : 65535 < x
              · have d3 : decide (65535 < x) = true := decide_eq_true c3
                ( go_wp2_with fail ; refine (known_walk _).mono ?_ ; rintro e w4 ⟨rfl, hb4⟩ ; have HB4 := Lib.hid (bel_then HB.out hb4) ; clear hb4 ; go_wp2_with fail ; go_ret ; exact ⟨rfl, HB4.out⟩)
              · have d3 : decide (65535 < x) = false := decide_eq_false c3
                have c4 : 262144 < s * x := by omega
                have c5 : s * x ≤ 262144 * 65535 := Int.mul_le_mul hs2 (by omega) (by omega) (by omega)
                ( go_wp2_with fail ; refine (known_walk _).mono ?_ ; rintro e w4 ⟨rfl, hb4⟩ ; have HB4 := Lib.hid (bel_then HB.out hb4) ; clear hb4 ; go_wp2_with fail ; go_ret ; exact ⟨rfl, HB4.out⟩)
      · obtain rfl : k = n := by omega
        ( go_wp2_with fail ; refine (known_walk _).mono ?_ ; rintro e w4 ⟨rfl, hb4⟩ ; have HB4 := Lib.hid (bel_then HB.out hb4) ; clear hb4 ; go_wp2_with fail ; go_ret ; exact ⟨rfl, HB4.out⟩)

end Go.Proofs.Ytbppoegdmmflmaa
