/- The statement IsaParts, walked. -/
import Derived.Test.YtmnmbpenonodiaaDoorIsaKnown
import Derived.Test.YtmnmbpenonodiaaDoorIsaPart
import Derived.Test.YtmnmbpenonodiaaDoorRiscCand
import Derived.Test.YtmnmbpenonodiaaDoorAnd
namespace Go.Proofs.YtmnmbpenonodiaaDoor
set_option linter.unusedVariables false
set_option linter.unusedSimpArgs false
open Go.RowKit

theorem xor_bit {x : Int} {β : Nat} (hx : 0 ≤ x ∧ x < 4294967296) (hβ : β < 32) : bits .xor .u32 x (2 ^ β % 4294967296) = ((x.toNat ^^^ 2 ^ β : Nat) : Int) ∧ ((x.toNat ^^^ 2 ^ β : Nat) : Int) < 4294967296 := by
  obtain ⟨X, rfl⟩ := Int.eq_ofNat_of_zero_le hx.1
  have hp : 2 ^ β < 4294967296 := Nat.pow_lt_pow_right (n := 32) (a := 2) (by decide) hβ
  have hX : X < 4294967296 := by omega
  have hY : X ^^^ 2 ^ β < 4294967296 := Nat.xor_lt_two_pow (n := 32) hX hp
  have e : ((2 : Int) ^ β % 4294967296) = ((2 ^ β : Nat) : Int) := by
    have : ((2 : Int) ^ β) = ((2 ^ β : Nat) : Int) := by simp
    rw [this]; exact Int.emod_eq_of_lt (Int.natCast_nonneg _) (Int.ofNat_lt.2 hp)
  rw [e, u32_xor_nat _ _ hX hp]
  exact ⟨rfl, Int.ofNat_lt.2 hY⟩

theorem of_any (x : Int) (hx : 0 ≤ x ∧ x < 4294967296) : ∃ (i : Ins) (c : Int), (good (flds x) = true ∧ i = flds x ∧ c = 0 ∨ i = Ins.zero ∧ c = 4) ∧ ∀ w, Calls Tryd.prog 15 #[.int .u32 x] w fun e w' => e = .returned (.tuple #[i.val, .int .i64 c]) ∧ Below w.heap.size w w' := by
  have h1 : ∀ w, Calls Tryd.prog 15 #[.int .u32 x] w (OfIs (flds x) w) := fun w => of_walk x w hx _ rfl
  unfold OfIs at h1
  by_cases hg : good (flds x) = true
  · simp only [hg, if_true] at h1
    exact ⟨flds x, 0, .inl ⟨hg, rfl, rfl⟩, h1⟩
  · simp only [hg] at h1
    exact ⟨Ins.zero, 4, .inr ⟨rfl, rfl⟩, h1⟩

set_option maxRecDepth 20000 in
set_option maxHeartbeats 4000000 in
theorem parts_law (x bit : Int) (w : World) (hL : Laid w) (hx : 0 ≤ x ∧ x < 4294967296) (hn : -9223372036854775808 ≤ bit ∧ bit ≤ 9223372036854775807) :
    Calls Tryd.prog 7 #[.int .u32 x, .int .i64 bit] w fun e w' => e = .returned (.bool true) ∧ Below w.heap.size w w' := by
  have HL := Lib.hid hL
  have HX := Lib.hid hx
  clear hL hx
  by_cases hb : 0 ≤ bit ∧ bit ≤ 31
  · have hb1 := hb.1
    have hb2 := hb.2
    obtain ⟨β, rfl⟩ := Int.eq_ofNat_of_zero_le hb1
    have hβ : β < 32 := by omega
    clear hb hb1 hb2 hn
    obtain ⟨i, c, hc, h1⟩ := of_any x HX.out
    have H1 := Lib.hid h1
    have HC := Lib.hid hc
    clear h1 hc
    go_enter Tryd.func7, Tryd.ntmps7
    go_wp2_with fail
    refine (H1.out _).mono ?_
    rintro e w1 ⟨rfl, hb⟩
    have B1 := Lib.hid hb
    have S1 := Sep.nil w1
    clear hb
    go_wp2_with (first | (refine alloc_sep rfl 29 rfl S1 (z := Ins.zero.val) (cs := Ins.zero.cells) (by kernel_rfl) rfl ?_; intro w2 S2 b2 s2; have B2 := Lib.hid (bel_then B1.out b2); have g2 : w1.heap.size < w2.heap.size := (by omega); clear S1 b2 s2) | (refine store_sep rfl 29 (.tmp 5) (.tmp 21) rfl S2 0 rfl rfl rfl rfl (by kernel_rfl) rfl ?_; intro w3 S3 k3 s3; have B3 := Lib.hid (bel_keG B2.out k3 (by intro i hi; have := B1.out.size; omega)); have g3 : w1.heap.size < w3.heap.size := (by omega); clear S2 k3 s3 g2))
    obtain ⟨y, hy⟩ : ∃ y, y = bits .xor .u32 x (2 ^ β % 4294967296) := ⟨_, rfl⟩
    have hxb := xor_bit HX.out hβ
    rw [hxb.1] at hy
    have HY : Hid (bits .xor .u32 x (2 ^ β % 4294967296) = y ∧ y = ((x.toNat ^^^ 2 ^ β : Nat) : Int)) := Lib.hid ⟨by rw [hxb.1, hy], hy⟩
    obtain ⟨j, f, hf, h2⟩ := of_any y (by rw [hy]; exact ⟨Int.natCast_nonneg _, hxb.2⟩)
    have H2 := Lib.hid h2
    have HF := Lib.hid hf
    clear h2 hf hy hxb
    rw [HY.out.1]
    refine (H2.out _).mono ?_
    rintro e w4 ⟨rfl, hb⟩
    have B4 := Lib.hid (bel_then B3.out hb)
    have S4 := S3.bel hb
    have g4 : w1.heap.size < w4.heap.size := Nat.lt_of_lt_of_le g3 hb.size
    clear hb S3 g3
    go_wp2_with (first | (refine alloc_sep rfl 29 rfl S4 (z := Ins.zero.val) (cs := Ins.zero.cells) (by kernel_rfl) rfl ?_; intro w5 S5 b5 s5; have B5 := Lib.hid (bel_then B4.out b5); clear S4 b5 s5) | (refine store_sep rfl 29 (.tmp 7) (.tmp 30) rfl S5 0 rfl rfl rfl rfl (by kernel_rfl) rfl ?_; intro w6 S6 k6 s6; have B6 := Lib.hid (bel_keG B5.out k6 (by intro i hi; have := B4.out.size; omega)); clear S5 k6 s6))
    refine (num_walk _ _).mono ?_
    rintro e w' ⟨rfl, rfl⟩
    go_wp2_with fail
    refine (num_walk _ _).mono ?_
    rintro e w' ⟨rfl, rfl⟩
    rcases HC.out with ⟨gx, ix, rfl⟩ | ⟨_, rfl⟩
    · rcases HF.out with ⟨gy, iy, rfl⟩ | ⟨_, rfl⟩
      · have hmi := (of_word HX.out gx).1
        have hmj := (of_word (by rw [HY.out.2]; exact ⟨Int.natCast_nonneg _, (xor_bit HX.out hβ).2⟩) gy).1
        by_cases hf : i.form = j.form
        · have hpp := parts_plain x.toNat β (by have := HX.out; omega) hβ (by rw [← HY.out.2, show ((x.toNat : Nat) : Int) = x by have := HX.out; omega, ← ix, ← iy]; exact hf)
          rw [← HY.out.2, show ((x.toNat : Nat) : Int) = x by have := HX.out; omega, ← ix, ← iy] at hpp
          rw [← ix] at hmi
          rw [← iy] at hmj
          obtain ⟨d, hd, hp⟩ := hpp
          have HP := Lib.hid hp
          have HI := Lib.hid hmi
          have HJ := Lib.hid hmj
          have c0 : w6.cell? ⟨w1.heap.size, 0, none⟩ = some (.int .i64 i.form) := ((S6.at 1 rfl).cell 0).trans rfl
          have d0 : w6.cell? ⟨w4.heap.size, 0, none⟩ = some (.int .i64 i.form) := ((S6.at 0 rfl).cell 0).trans (by rw [hf]; rfl)
          have HS6 := Lib.hid S6
          clear hp hmi hmj ix iy gx gy hf S6 g4 hβ
          go_wp2_with fail
          clear c0 d0
          go_loopw [9, 10] (fun n k wr => ∃ (κ : Nat) (ν : Int), κ ≤ 9 ∧ k = .int .i64 κ ∧ n = .int .i64 ν ∧ (ν = 1 ∧ d < κ ∨ ν = 0 ∧ κ ≤ d) ∧ Sep wr [(w4.heap.size, j.cells, 29), (w1.heap.size, i.cells, 29)] ∧ Below w.heap.size w wr) (fun _ k _ => 9 - (intOf k).toNat)
          case atStart => exact ⟨0, 0, by decide, rfl, rfl, .inr ⟨rfl, Nat.zero_le _⟩, HS6.out, B6.out⟩
          case round =>
            obtain ⟨κ, ν, hk, rfl, rfl, hν, hs, hb⟩ := hrel
            have HS := Lib.hid hs
            have HB := Lib.hid hb
            have HN := Lib.hid hν
            clear hs hb hν
            by_cases hlt : κ < 9
            · have i1 : (κ : Int) < 9 := by omega
              have i2 : (0 : Int) ≤ κ := by omega
              go_wp2_with fail
              have hpk := HP.out κ hlt
              have hpi := part_walk i κ
              have hpj := part_walk j κ
              obtain ⟨p, hp⟩ : ∃ p, p = i.part κ := ⟨_, rfl⟩
              obtain ⟨q, hq⟩ : ∃ q, q = j.part κ := ⟨_, rfl⟩
              rw [← hp, ← hq] at hpk
              rw [← hp] at hpi
              rw [← hq] at hpj
              have HPI := Lib.hid (fun w => hpi w hlt HI.out.cond ⟨HI.out.n.1, by have := HI.out.n; omega⟩)
              have HPJ := Lib.hid (fun w => hpj w hlt HJ.out.cond ⟨HJ.out.n.1, by have := HJ.out.n; omega⟩)
              have HK := Lib.hid hpk
              clear hpk hpi hpj hp hq
              refine wp_region_mix' [([0, 1, 3, 4], 2), ([], 5)] [6] (by kernel_rfl) (by kernel_rfl) (fun _ _ d _ _ h => by cases d <;> exact h) ?_
              intro v1 hb
              have V1 := HS.out.bel hb
              have D1 := Lib.hid (bel_then HB.out hb)
              clear hb
              refine mix_step ?_
              simp only [pickOps, nth]
              (go_big_quiet_want; refine quiet_row 29 (.tmp 5) rfl rfl (fun x => ((V1.at 1 rfl).laterB x).loads Tryd.underlying29 rfl (by kernel_rfl)) ?_; go_big_quiet_on)
              simp only [Act.put, List.setIfInBounds_toArray, List.set_cons_succ, List.set_cons_zero]
              (repeat (go_big_quiet_step (fail)))
              (go_big_quiet_want; refine quiet_row 29 (.tmp 7) rfl rfl (fun x => ((V1.at 0 rfl).laterB x).loads Tryd.underlying29 rfl (by kernel_rfl)) ?_; go_big_quiet_on)
              simp only [Act.put, List.setIfInBounds_toArray, List.set_cons_succ, List.set_cons_zero]
              (repeat (go_big_quiet_step (fail)))
              refine wpQuiet_nil ?_
              go_wp2_with fail
              refine (HPI.out _).mono ?_
              rintro e v2 ⟨rfl, hb⟩
              have V2 := V1.bel hb
              have K2 := Lib.hid hb
              have D2 := Lib.hid (bel_then D1.out hb)
              clear hb V1
              go_wp2_with fail
              refine ⟨K2.out, mix_step ?_⟩
              simp only [pickOps, nth]
              refine wpQuiet_nil ?_
              go_wp2_with fail
              refine (HPJ.out _).mono ?_
              rintro e v3 ⟨rfl, hb⟩
              have V3 := Lib.hid (V2.bel hb)
              have K3 := Lib.hid hb
              have D3 := Lib.hid (bel_then D2.out hb)
              clear hb V2
              go_wp2_with fail
              refine ⟨K3.out, mix_end ?_⟩
              simp only [pickOps, nth, Act.put, List.setIfInBounds_toArray, List.set_cons_succ, List.set_cons_zero]
              (repeat (go_big_quiet_step (fail)))
              refine wpQuiet_nil ?_
              by_cases hpq : p = q
              · subst hpq
                go_wp2_with fail
                go_roundw
                case rel =>
                  refine ⟨κ + 1, ν, by omega, by go_num, rfl, ?_, V3.out, D3.out⟩
                  have h1 : ¬ κ = d := fun e => HK.out.2 e rfl
                  have h2 := HN.out
                  omega
                case measure => simp [intOf]; omega
              · have hd' : κ = d := HK.out.1 hpq
                have hν0 : ν = 0 := by have := HN.out; omega
                subst hν0
                go_wp2_with fail
                go_roundw
                case rel => exact ⟨κ + 1, 1, by omega, by go_num, rfl, .inl ⟨rfl, by omega⟩, V3.out, D3.out⟩
                case measure => simp [intOf]; omega
            · obtain rfl : κ = 9 := by omega
              have hν1 : ν = 1 := by have := HN.out; omega
              subst hν1
              have hne : i ≠ j := fun e => (HP.out d hd).2 rfl (by rw [e])
              have HNE := Lib.hid hne
              clear hne
              go_wp2_with (first | (refine guard_off (by kernel_rfl) ?_; first | (refine load_sep rfl 29 (.tmp 5) rfl HS.out 1 rfl rfl Tryd.underlying29 rfl (by kernel_rfl) ?_) | (refine load_sep rfl 29 (.tmp 7) rfl HS.out 0 rfl rfl Tryd.underlying29 rfl (by kernel_rfl) ?_) | (refine neq_ins rfl (.tmp 62) (.tmp 63) rfl _ _ HI.out.fit HJ.out.fit rfl rfl true (by simp [HNE.out]) ?_)))
              have B6 := HB
              ( refine (known_walk _ (HL.out.bel B6.out)).mono ?_ ; rintro e w7 ⟨rfl, hb⟩ ; have B7 := Lib.hid (bel_then B6.out hb) ; clear hb ; go_wp2_with fail ; go_ret ; exact ⟨rfl, B7.out⟩)
        · have c0 : w6.cell? ⟨w1.heap.size, 0, none⟩ = some (.int .i64 i.form) := ((S6.at 1 rfl).cell 0).trans rfl
          have d0 : w6.cell? ⟨w4.heap.size, 0, none⟩ = some (.int .i64 j.form) := ((S6.at 0 rfl).cell 0).trans rfl
          clear S6 hmi hmj gx gy ix iy
          go_wp2_with fail
          ( refine (known_walk _ (HL.out.bel B6.out)).mono ?_ ; rintro e w7 ⟨rfl, hb⟩ ; have B7 := Lib.hid (bel_then B6.out hb) ; clear hb ; go_wp2_with fail ; go_ret ; exact ⟨rfl, B7.out⟩)
      · go_wp2_with fail
        ( refine (known_walk _ (HL.out.bel B6.out)).mono ?_ ; rintro e w7 ⟨rfl, hb⟩ ; have B7 := Lib.hid (bel_then B6.out hb) ; clear hb ; go_wp2_with fail ; go_ret ; exact ⟨rfl, B7.out⟩)
    · have h4 : f = 0 ∨ f = 4 := by rcases HF.out with ⟨_, _, h⟩ | ⟨_, h⟩ <;> simp [h]
      rcases h4 with rfl | rfl
      · go_wp2_with fail
        ( refine (known_walk _ (HL.out.bel B6.out)).mono ?_ ; rintro e w7 ⟨rfl, hb⟩ ; have B7 := Lib.hid (bel_then B6.out hb) ; clear hb ; go_wp2_with fail ; go_ret ; exact ⟨rfl, B7.out⟩)
      · go_wp2_with fail
        ( refine (known_walk _ (HL.out.bel B6.out)).mono ?_ ; rintro e w7 ⟨rfl, hb⟩ ; have B7 := Lib.hid (bel_then B6.out hb) ; clear hb ; go_wp2_with fail ; go_ret ; exact ⟨rfl, B7.out⟩)
  · have B6 := Lib.hid (Below.refl w.heap.size w)
    by_cases h0 : bit < 0
    all_goals
      (first | (have h31 : 31 < bit := by omega) | skip)
      clear hb hn
      go_enter Tryd.func7, Tryd.ntmps7
      go_wp2_with fail
      refine (known_walk _ HL.out).mono ?_
      rintro e w7 ⟨rfl, hb⟩
      have B7 := Lib.hid hb
      clear hb
      go_wp2_with fail
      go_ret
      exact ⟨rfl, B7.out⟩

end Go.Proofs.YtmnmbpenonodiaaDoor
