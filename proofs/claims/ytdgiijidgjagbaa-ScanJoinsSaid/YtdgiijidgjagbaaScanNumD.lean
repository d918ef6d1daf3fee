/- Contract: number, decimal. Printed by gen_scannum.py. -/
import Derived.Test.YtdgiijidgjagbaaScanNum
namespace Go.Proofs.Ytdgiijidgjagbaa
set_option linter.unusedVariables false
set_option linter.unusedSimpArgs false
open Go.RowKit

variable {F : Nat → Prop} {w w' : World} {g : Nat} {s : Sc} {a : Option Addr} {c : Nat} {n : Value} {m : Nat}

set_option maxRecDepth 20000 in
set_option maxHeartbeats 16000000 in
theorem number_D (H : ScnX F w g s a c n m) (h0 : digitB (s.src.getD s.at' 0) = true) (hbb : ¬ s.src.getD (run hexB s.src s.at') 0 = 72 ∧ ¬ s.src.getD (run hexB s.src s.at') 0 = 88) :
    Calls Try.prog 33 #[.pointer (some ⟨g, 0, none⟩)] w (EndIs F w g s.number a c m) := by
  have HH := Lib.hid H
  have c1 : w.cell? ⟨g, 1, none⟩ = some (.int .i64 s.at') := (H.at'.cell 1).trans rfl
  have HL := Lib.hid H.ok.len
  have HLE := Lib.hid H.ok.le
  have HD0 := Lib.hid h0
  have a1 : (0 : Int) ≤ s.at' := by omega
  have a2 : (s.at' : Int) ≤ 65535 := by have := H.ok.le; have := H.ok.len; omega
  have HBB := Lib.hid hbb
  clear H h0 hbb
  go_enter Try.func33, Try.ntmps33
  go_wp2
  clear c1
  go_loopg [3] s.src.length (fun gk t wr => ∃ k d, s.at' ≤ k ∧ k ≤ s.src.length ∧ s.src.length - k ≤ gk ∧ run hexB s.src k = run hexB s.src s.at' ∧ t = .bool d ∧ (cut s.src s.at' k).all digitB = d ∧ ScnX F wr g (s.to k) a c n m ∧ Ke (· = g) w wr)
  case atStart => exact ⟨s.at', true, Nat.le_refl _, HLE.out, Nat.sub_le _ _, rfl, rfl, by rw [cut_self]; rfl, HH.out, Ke.refl _ _⟩
  case round =>
    obtain ⟨k, d, hk1, hk2, hgk, hr, rfl, hall, hx, hk⟩ := hrel
    have HX := Lib.hid hx
    have HK := Lib.hid hk
    have HG := Lib.hid hgk
    have HR := Lib.hid hr
    have HK1 := Lib.hid hk1
    have HK2 := Lib.hid hk2
    have HALL := Lib.hid hall
    obtain ⟨⟨q1, q2⟩, ⟨q3, q4⟩, q5, q6, q7⟩ := wrapAt hk2 HL.out
    obtain ⟨v, hv⟩ : ∃ v, s.src.getD k 0 = v := ⟨_, rfl⟩
    have HV := Lib.hid hv
    by_cases hhx : hexB v = true
    · have hy := run_yes hex0 (by rw [hv]; exact hhx)
      have HY := Lib.hid hy
      have HA2 := Lib.hid (show (cut s.src s.at' (k + 1)).all digitB = (d && digitB v) by rw [cut_snoc _ _ _ hk1 hy.2, all_snoc, hall, hv])
      clear hx hk hgk hr hk1 hk2 hv hy q1 q2 q3 q4 hall
      cases d
      · have f1 : True := trivial
        go_wp2_with (first | (have _f := f1; refine (ch_is HX.out v HV.out).mono ?_; rintro e w1 ⟨rfl, hb⟩; have hx1 := HX.out.bel hb; have HX1 := Lib.hid hx1; have HK1' := Lib.hid (ke_bel HK.out hb); have c1 : w1.cell? ⟨g, 1, none⟩ = some (.int .i64 k) := (hx1.at'.cell 1).trans rfl; clear hb hx1 _f f1) | (refine (hex_is v _ hhx _).mono ?_; rintro e w' ⟨rfl, rfl⟩) | (refine scn_store1 rfl 3 (.tmp 33) (.tmp 31) rfl HX1.out (s.to (k + 1)) rfl rfl rfl (by kernel_rfl) rfl rfl rfl rfl HY.out.2 ?_; intro w2 h2 k2 z2; have HX2 := Lib.hid h2; have HK2' := Lib.hid (HK1'.out.trans k2); clear h2 k2 z2))
        go_frame
        go_roundg (gk - 1)
        case measure => have := HG.out; have := HY.out.2; omega
        case rel => exact ⟨k + 1, false, by have := HK1.out; omega, HY.out.2, by have := HG.out; omega, HY.out.1.symm.trans HR.out, rfl, HA2.out, HX2.out, HK2'.out⟩
      · obtain ⟨dv, hdv⟩ : ∃ dv, digitB v = dv := ⟨_, rfl⟩
        have HDV := Lib.hid hdv
        clear hdv
        have f1 : True := trivial
        have f2 : True := trivial
        go_wp2_with (first | (have _f := f1; refine (ch_is HX.out v HV.out).mono ?_; rintro e w1 ⟨rfl, hb⟩; have HX1 := Lib.hid (HX.out.bel hb); have HK1' := Lib.hid (ke_bel HK.out hb); clear hb _f f1) | (refine (hex_is v _ hhx _).mono ?_; rintro e w' ⟨rfl, rfl⟩) | (have _f := f2; refine (ch_is HX1.out v HV.out).mono ?_; rintro e w2 ⟨rfl, hb⟩; have hx2 := HX1.out.bel hb; have HX2 := Lib.hid hx2; have HK2' := Lib.hid (ke_bel HK1'.out hb); have c1 : w2.cell? ⟨g, 1, none⟩ = some (.int .i64 k) := (hx2.at'.cell 1).trans rfl; clear hb hx2 _f f2) | (refine (digit_is v dv HDV.out _).mono ?_; rintro e w' ⟨rfl, rfl⟩) | (refine scn_store1 rfl 3 (.tmp 33) (.tmp 31) rfl HX2.out (s.to (k + 1)) rfl rfl rfl (by kernel_rfl) rfl rfl rfl rfl HY.out.2 ?_; intro w3 h2 k2 z2; have HX3 := Lib.hid h2; have HK3' := Lib.hid (HK2'.out.trans k2); clear h2 k2 z2))
        go_frame
        go_roundg (gk - 1)
        case measure => have := HG.out; have := HY.out.2; omega
        case rel => exact ⟨k + 1, dv, by have := HK1.out; omega, HY.out.2, by have := HG.out; omega, HY.out.1.symm.trans HR.out, rfl, by rw [HA2.out, HDV.out]; rfl, HX3.out, HK3'.out⟩
    · have hhx' : hexB v = false := by simpa using hhx
      have hK : run hexB s.src s.at' = k := by rw [← hr]; exact run_no (by rw [hv]; exact hhx')
      have hlt0 : s.at' < k := by
        have h1 := run_yes (p := hexB) (s := s.src) (i := s.at') hex0 (by unfold hexB; rw [HD0.out]; rfl)
        have h2 := (run_le (p := hexB) (s := s.src) (i := s.at' + 1) h1.2).1
        omega
      have HAllX := Lib.hid (show ∀ j, j < k - s.at' → hexB ((cut s.src s.at' k).getD j 0) = true from fun j hj => by rw [cut_get _ _ _ _ hk2 hj]; exact run_all (p := hexB) (i := s.at') (by omega) (by rw [hK]; omega))
      have HLT0 := Lib.hid hlt0
      have HKK := Lib.hid hK
      obtain ⟨xb, hxb, hsl, hrx, hlx, hcv⟩ := hx.cut s.src rfl s.at' k hk1 hk2
      clear hxb hcv
      obtain ⟨b, o, hbo, hcells⟩ := hrx.cells
      have hV := (hbo (by rw [hlx]; omega)).1
      rw [hV] at hsl
      have HVV := Lib.hid hV
      obtain ⟨L, hL⟩ : ∃ L, k - s.at' = L := ⟨_, rfl⟩
      obtain ⟨C, hC⟩ : ∃ C, c - s.at' = C := ⟨_, rfl⟩
      rw [hL, hC] at hsl
      have HLL := Lib.hid hL
      have L1 : (L : Int) ≤ 65535 := by have := HL.out; omega
      have L2 : 0 < L := by omega
      have hnb : ¬ v = 72 ∧ ¬ v = 88 := by rw [← hv, ← hK]; exact HBB.out
      have g72 : (v == 72) = false := by simpa using hnb.1
      have g88 : (v == 88) = false := by simpa using hnb.2
      have HNB := Lib.hid hnb
      clear hx hk hgk hr hk1 hk2 hhx hK hlt0 hrx hlx hbo hcells hV hL hC hv hall q2 q3 q4 hnb
      have f1 : True := trivial
      have f2 : True := trivial
      go_wp2_with (first | (have _f := f1; refine (ch_is HX.out v HV.out).mono ?_; rintro e w1 ⟨rfl, hb⟩; have hx1 := HX.out.bel hb; have HX1 := Lib.hid hx1; have HK1' := Lib.hid (ke_bel HK.out hb); have c0 : w1.cell? ⟨g, 0, none⟩ = some (.slice a s.src.length c) := (hx1.at'.cell 0).trans rfl; have c1 : w1.cell? ⟨g, 1, none⟩ = some (.int .i64 k) := (hx1.at'.cell 1).trans rfl; clear hb hx1 _f f1) | (refine (hex_is v _ hhx' _).mono ?_; rintro e w' ⟨rfl, rfl⟩))
      go_quiet (fail)
      go_wp2_with (have _f := f2; refine (ch_is (HX1.out.bel (belN _ _)) v HV.out).mono ?_; rintro e w2 ⟨rfl, hb⟩; have HX2 := Lib.hid ((HX1.out.bel (belN _ _)).bel hb); have HK2' := Lib.hid (ke_bel (ke_bel HK1'.out (belN _ _)) hb); clear hb c0 c1 _f f2)
      obtain ⟨xb3, hxb3, hsl3, hrx3, hlx3, hcv3⟩ := HX2.out.cut s.src rfl s.at' k HK1.out HK2.out
      clear hxb3 hcv3 hsl3
      obtain ⟨b3, o3, hbo3, hcells3⟩ := hrx3.cells
      have hV3 := (hbo3 (by rw [hlx3]; have := HLT0.out; omega)).1
      obtain ⟨rfl, rfl⟩ : b = b3 ∧ o = o3 := by have := HVV.out.symm.trans hV3; simpa using this
      have HC3 := Lib.hid (show ∀ j, j < L → w2.cell? ⟨b, o + j, none⟩ = some (.int .u8 ((cut s.src s.at' k).getD j 0)) from fun j hj => hcells3 j (by rw [hlx3, HLL.out]; exact hj))
      have HLX3 := Lib.hid (hlx3.trans HLL.out)
      clear hrx3 hlx3 hbo3 hcells3 hV3
      obtain ⟨l, hl⟩ : ∃ l, l = cut s.src s.at' k := ⟨_, rfl⟩
      have HLC := Lib.hid hl
      rw [← hl] at HC3 HLX3 HAllX
      clear hl
      go_loop [11, 49] (fun n i => ∃ (j : Nat) (ν : Int), j ≤ L ∧ i = .int .i64 j ∧ n = .int .i64 ν ∧ decN (l.take j) = ν ∧ 0 ≤ ν ∧ ν ≤ 4294967296) (fun _ i => L - (intOf i).toNat)
      case atStart => exact ⟨0, 0, Nat.zero_le _, rfl, rfl, rfl, by decide, by decide⟩
      case round =>
        obtain ⟨j, ν, hj, rfl, rfl, hν, ν1, ν2⟩ := hrel
        have HN := Lib.hid hν
        have j1 : (0 : Int) ≤ j := by omega
        have HJ := Lib.hid hj
        clear hν
        by_cases hjl : j < L
        · have hc3 := HC3.out j hjl
          have hx3 := HAllX.out j (by rw [HLL.out]; exact hjl)
          obtain ⟨v2, hv2⟩ : ∃ v2, v2 = l.getD j 0 := ⟨_, rfl⟩
          rw [← hv2] at hc3 hx3
          have hbd := hexB_bd hx3
          have HSN : Hid (l.take (j + 1) = l.take j ++ [v2]) := Lib.hid (by rw [take_snoc' l j (by rw [HLX3.out]; exact hjl), hv2])
          have b1 := hbd.1
          have b2 := hbd.2.1
          have j2 : (j : Int) ≤ 65535 := by omega
          clear hv2 hx3 hbd hj
          go_wp2
          go_round
          case rel => exact ⟨j + 1, _, hjl, by go_num, rfl, by rw [HSN.out, decN_snoc, HN.out]; unfold decF; split <;> omega, by split <;> omega, by split <;> omega⟩
          case measure => simp [intOf]; omega
        · have hjL : j = L := by omega
          have HFN : Hid (decN (cut s.src s.at' k) = ν) := Lib.hid (by rw [← HLC.out, ← HN.out, List.take_of_length_le (by rw [HLX3.out]; omega)])
          subst hjL
          clear hj
          cases d
          · have hn : s.number = (s.to k).mark 2 := by
              unfold Sc.number
              simp only [HKK.out]
              rw [show s.src.getD k 0 = v from HV.out, if_neg (by rintro (h | h); exact HNB.out.1 h; exact HNB.out.2 h), if_pos (.inl HALL.out)]; rfl
            have HNN := Lib.hid hn
            clear hn
            go_wp2_with (refine (mark_walk HX2.out 2).mono ?_; rintro e w4 ⟨rfl, h1, h2, h3⟩; have HX4 := Lib.hid h1; have HK4 := Lib.hid (HK2'.out.trans h2); clear h1 h2 h3)
            go_end0
            exact ⟨rfl, ⟨n, by rw [HNN.out]; exact HX4.out⟩, HH.out.off HK4.out⟩
          · by_cases hbig : 2147483647 < ν
            · have hn : s.number = (s.to k).mark 2 := by
                unfold Sc.number
                simp only [HKK.out]
                rw [show s.src.getD k 0 = v from HV.out, if_neg (by rintro (h | h); exact HNB.out.1 h; exact HNB.out.2 h), if_pos (.inr (by rw [HFN.out]; exact hbig))]; rfl
              have HNN := Lib.hid hn
              clear hn
              go_wp2_with (refine (mark_walk HX2.out 2).mono ?_; rintro e w4 ⟨rfl, h1, h2, h3⟩; have HX4 := Lib.hid h1; have HK4 := Lib.hid (HK2'.out.trans h2); clear h1 h2 h3)
              go_end0
              exact ⟨rfl, ⟨n, by rw [HNN.out]; exact HX4.out⟩, HH.out.off HK4.out⟩
            · have hn : s.number = { s.to k with sym := { s.sym with sym := 26, val := ν } } := by
                unfold Sc.number
                simp only [HKK.out]
                rw [show s.src.getD k 0 = v from HV.out, if_neg (by rintro (h | h); exact HNB.out.1 h; exact HNB.out.2 h), if_neg (by rw [HALL.out, HFN.out]; rintro (h | h); cases h; exact hbig h), HFN.out]; rfl
              have HNN := Lib.hid hn
              have ν3 : ν ≤ 2147483647 := by omega
              clear hn
              have f4 : True := trivial
              have f5 : True := trivial
              go_wp2_with (first | (have _f := f4; refine scn_store1 rfl 3 (.tmp 75) (.const (.int .i64 26)) rfl HX2.out { s.to k with sym := { s.sym with sym := 26 } } rfl rfl rfl (by kernel_rfl) rfl rfl rfl rfl HK2.out ?_; intro w4 h2 k2 z2; have HX4 := Lib.hid h2; have HK4 := Lib.hid (HK2'.out.trans k2); clear h2 k2 z2 _f f4) | (have _f := f5; refine scn_store1 rfl 21 (.tmp 78) (.tmp 72) rfl HX4.out { s.to k with sym := { s.sym with sym := 26, val := ν } } rfl rfl rfl (by kernel_rfl) rfl rfl rfl rfl HK2.out ?_; intro w5 h2 k2 z2; have HX5 := Lib.hid h2; have HK5 := Lib.hid (HK4.out.trans k2); clear h2 k2 z2 _f f5))
              go_end0
              exact ⟨rfl, ⟨n, by rw [HNN.out]; exact HX5.out⟩, HH.out.off HK5.out⟩

end Go.Proofs.Ytdgiijidgjagbaa
