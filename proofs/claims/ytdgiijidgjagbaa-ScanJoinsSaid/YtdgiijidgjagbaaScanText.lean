/- Contract: text. -/
import Derived.Test.YtdgiijidgjagbaaScanName
import Derived.Test.YtdgiijidgjagbaaDo2
namespace Go.Proofs.Ytdgiijidgjagbaa
set_option linter.unusedVariables false
set_option linter.unusedSimpArgs false
open Go.RowKit

variable {F : Nat → Prop} {w w' : World} {g : Nat} {s : Sc} {a : Option Addr} {c : Nat} {n : Value} {m : Nat}

set_option maxHeartbeats 1000000 in
theorem chq_is (H : ScnX F w g s a c n m) (v : Int) (hv : s.src.getD s.at' 0 = v) :
    Calls Try.prog 29 #[.pointer (some ⟨g, 0, none⟩)] w fun e w' => e = .returned (.int .u8 v) ∧ ∃ q, w' = w.drewN q := by
  have c0 : w.cell? ⟨g, 0, none⟩ = some (.slice a s.src.length c) := (H.at'.cell 0).trans rfl
  have c1 : w.cell? ⟨g, 1, none⟩ = some (.int .i64 s.at') := (H.at'.cell 1).trans rfl
  have hle := H.ok.le
  have hln := H.ok.len
  have i1 : (s.src.length : Int) ≤ 65535 := by omega
  have i2 : (0 : Int) ≤ s.at' := by omega
  by_cases hlt : s.at' < s.src.length
  · obtain ⟨b, rfl, hc⟩ := H.bytes (by omega)
    have hb := hc s.at' hlt
    have i3 : (s.at' : Int) < s.src.length := by omega
    rw [hv] at hb
    clear H hc hle hln hv
    go_enter Try.func29, Try.ntmps29
    go_wp2
    go_quiet (fail)
    go_wp2
    go_quiet (fail)
    go_wp2
    go_ret
    exact ⟨rfl, _, by rw [World.drewN_drewN]⟩
  · have i3 : ¬ ((s.at' : Int) < s.src.length) := by omega
    have he := getD_end (s := s.src) (i := s.at') (by omega)
    rw [he] at hv
    subst hv
    clear H hle hln he
    go_enter Try.func29, Try.ntmps29
    go_wp2
    go_quiet (fail)
    go_wp2
    go_ret
    exact ⟨rfl, _, rfl⟩

theorem strB_of {v : Int} (h : strB v = true) : 32 ≤ v ∧ v < 127 ∧ ¬ v = 34 := by
  unfold strB at h; simp at h; exact h
theorem strB_not {v : Int} (h : strB v = false) : v < 32 ∨ (32 ≤ v ∧ 127 ≤ v) ∨ v = 34 := by
  unfold strB at h; simp at h
  by_cases h1 : 32 ≤ v
  · by_cases h2 : v < 127
    · exact .inr (.inr (h h1 h2))
    · exact .inr (.inl ⟨h1, by omega⟩)
  · exact .inl (by omega)

set_option maxRecDepth 20000 in
set_option maxHeartbeats 16000000 in
theorem text_walk (H : ScnX F w g s a c n m) (hlt : s.at' < s.src.length) :
    Calls Try.prog 34 #[.pointer (some ⟨g, 0, none⟩)] w (EndIs F w g s.text a c m) := by
  have HH := Lib.hid H
  have c1 : w.cell? ⟨g, 1, none⟩ = some (.int .i64 s.at') := (H.at'.cell 1).trans rfl
  have HL := Lib.hid H.ok.len
  have HLT := Lib.hid hlt
  have a1 : (0 : Int) ≤ s.at' := by omega
  have a2 : (s.at' : Int) ≤ 65535 := by have := H.ok.le; have := H.ok.len; omega
  clear H hlt
  have f0 : True := trivial
  go_enter Try.func34, Try.ntmps34
  go_wp2_with (have _f := f0; refine scn_store1 rfl 3 (.tmp 9) (.tmp 7) rfl HH.out (s.to (s.at' + 1)) rfl rfl rfl (by kernel_rfl) rfl rfl rfl rfl HLT.out ?_; intro w1 h1 k1 z1; have HX0 := Lib.hid h1; have HK0 := Lib.hid k1; have c1' : w1.cell? ⟨g, 1, none⟩ = some (.int .i64 ((s.at' : Int) + 1)) := (h1.at'.cell 1).trans rfl; clear h1 k1 z1 c1 _f f0)
  clear c1'
  go_loopg [] s.src.length (fun gk wr => ∃ k, s.at' + 1 ≤ k ∧ k ≤ s.src.length ∧ s.src.length - k ≤ gk ∧ run strB s.src k = run strB s.src (s.at' + 1) ∧ ScnX F wr g (s.to k) a c n m ∧ Ke (· = g) w wr)
  case atStart => exact ⟨s.at' + 1, Nat.le_refl _, HLT.out, Nat.sub_le _ _, rfl, HX0.out, HK0.out⟩
  case round =>
    obtain ⟨k, hk1, hk2, hgk, hr, hx, hk⟩ := hrel
    have HX := Lib.hid hx
    have HK := Lib.hid hk
    have HG := Lib.hid hgk
    have HR := Lib.hid hr
    have HK1 := Lib.hid hk1
    have HK2 := Lib.hid hk2
    obtain ⟨⟨q1, q2⟩, ⟨q3, q4⟩, q5, q6, q7⟩ := wrapAt hk2 HL.out
    obtain ⟨v, hv⟩ : ∃ v, s.src.getD k 0 = v := ⟨_, rfl⟩
    have HV := Lib.hid hv
    have c0 : wr.cell? ⟨g, 0, none⟩ = some (.slice a s.src.length c) := (hx.at'.cell 0).trans rfl
    have c1 : wr.cell? ⟨g, 1, none⟩ = some (.int .i64 k) := (hx.at'.cell 1).trans rfl
    by_cases hst : strB v = true
    · have hy := run_yes str0 (by rw [hv]; exact hst)
      have HY := Lib.hid hy
      obtain ⟨v1, v2, v3⟩ := strB_of hst
      have v4 : (v != 34) = true := by simpa using v3
      have hkl : k < s.src.length := hy.2
      clear hx hk hgk hr hk1 hk2 hv hst hy q2 q3 q4 v3
      go_wp2
      go_quiet ((go_at_call 29; exact Calls.quiet_of (chq_is (HX.out.bel (belN _ _)) v HV.out)))
      go_wp2_with (refine scn_store1 rfl 3 (.tmp 45) (.tmp 43) rfl (HX.out.bel (belN _ _)) (s.to (k + 1)) rfl rfl rfl (by kernel_rfl) rfl rfl rfl rfl HY.out.2 ?_; intro w2 h2 k2 z2; have HX2 := Lib.hid h2; have HK2' := Lib.hid ((ke_bel HK.out (belN _ _)).trans k2); clear h2 k2 z2)
      go_frame
      go_roundg (gk - 1)
      case measure => have := HG.out; have := HY.out.2; omega
      case rel => exact ⟨k + 1, by have := HK1.out; omega, HY.out.2, by have := HG.out; omega, HY.out.1.symm.trans HR.out, HX2.out, HK2'.out⟩
    · have hst' : strB v = false := by simpa using hst
      have hK : run strB s.src (s.at' + 1) = k := by rw [← hr]; exact run_no (by rw [hv]; exact hst')
      have HKK := Lib.hid hK
      have p0 : (0 : Int) ≤ (k : Int) - ((s.at' : Int) + 1) := by omega
      by_cases h34 : v = 34
      · subst h34
        have hkl : k < s.src.length := by
          rcases Nat.lt_or_ge k s.src.length with h | h
          · exact h
          · rw [getD_end h] at hv; cases hv
        have HKL := Lib.hid hkl
        obtain ⟨D, hD⟩ : ∃ D, (k : Int) - ((s.at' : Int) + 1) = D := ⟨_, rfl⟩
        rw [hD] at p0
        by_cases h63 : 63 < k - (s.at' + 1)
        · have hD63 : 63 < D := by omega
          have hn : s.text = (s.to k).mark 4 := by
            unfold Sc.text
            simp only [hK]
            rw [hv, if_pos (.inr h63)]; rfl
          have HN := Lib.hid hn
          clear hx hk hgk hr hk1 hk2 hv hst hst' hK q1 q2 q3 q4 hn h63
          go_wp2
          go_quiet ((go_at_call 29; exact Calls.quiet_of (chq_is (HX.out.bel (belN _ _)) 34 HV.out)))
          have f1 : True := trivial
          go_wp2_with (first | (have _f := f1; refine (ch_is (HX.out.bel (belN _ _)) 34 HV.out).mono ?_; rintro e w2 ⟨rfl, hb⟩; have hx2 := (HX.out.bel (belN _ _)).bel hb; have HX2 := Lib.hid hx2; have d1 : w2.cell? ⟨g, 1, none⟩ = some (.int .i64 k) := (hx2.at'.cell 1).trans rfl; have HK2' := Lib.hid (ke_bel (ke_bel HK.out (belN _ _)) hb); clear hb hx2 c0 c1 _f f1) | (refine (mark_walk HX2.out 4).mono ?_; rintro e w3 ⟨rfl, h1, h2, h3⟩; have HX3 := Lib.hid h1; have HK3' := Lib.hid (HK2'.out.trans h2); clear h1 h2 h3))
          go_end0
          exact ⟨rfl, ⟨n, by rw [HN.out]; exact HX3.out⟩, HH.out.off HK3'.out⟩
        · have hD63 : D ≤ 63 := by omega
          obtain ⟨xb, hxb, hsl, hrx, hlx, hcv⟩ := hx.cut s.src rfl (s.at' + 1) k hk1 hk2
          rw [show ((s.at' + 1 : Nat) : Int) = (s.at' : Int) + 1 by omega] at hsl
          have HXB := Lib.hid hxb
          have HCV := Lib.hid hcv
          clear hxb hcv hrx hlx
          have HD := Lib.hid hD
          obtain ⟨u1, hu1⟩ : ∃ u1, s.src.getD (s.at' + 1) 0 = u1 := ⟨_, rfl⟩
          have HU1 := Lib.hid hu1
          have hub := HH.out.ok.byte (s.at' + 1)
          rw [hu1] at hub
          obtain ⟨ub1, ub2⟩ := hub
          have hn : s.text = { s.to (k + 1) with sym := { s.sym with sym := 28, text := byt (cut s.src (s.at' + 1) k), val := if k - (s.at' + 1) = 1 then u1 else s.sym.val } } := by
            unfold Sc.text
            simp only [hK]
            rw [hv, if_neg (by rintro (h | h); exact h rfl; exact h63 h), hu1]; rfl
          have HN := Lib.hid hn
          clear hk hgk hr hk1 hk2 hv hst hst' hK q1 q2 q3 q4 hn h63 hu1 hx
          go_wp2
          go_quiet ((go_at_call 29; exact Calls.quiet_of (chq_is (HX.out.bel (belN _ _)) 34 HV.out)))
          have f1 : True := trivial
          go_wp2_with (have _f := f1; refine (ch_is (HX.out.bel (belN _ _)) 34 HV.out).mono ?_; rintro e w2 ⟨rfl, hb⟩; have hx2 := (HX.out.bel (belN _ _)).bel hb; have HX2 := Lib.hid hx2; have d1 : w2.cell? ⟨g, 1, none⟩ = some (.int .i64 k) := (hx2.at'.cell 1).trans rfl; have HK2' := Lib.hid (ke_bel (ke_bel HK.out (belN _ _)) hb); clear hb hx2 c0 c1 _f f1)
          refine wp_region_do2 [0, 2, 3, 4, 5, 6, 7, 8, 9, 10, 11, 12, 13, 14, 15] [1] 16 [15, 14, 13, 12, 11, 10, 9, 8, 7, 6, 5, 4, 3, 2, 0] [([17, 18, 19], 20)] [] (by kernel_rfl) (by kernel_rfl) (fun _ _ d _ _ h => by cases d <;> exact h) ?_
          intro u0 hb0
          have hx3 := HX2.out.bel hb0
          have HX3 := Lib.hid hx3
          have HK3 := Lib.hid (ke_bel HK2'.out hb0)
          have l0 := hx3.at'.laterCellB 0 (v := .slice a s.src.length c) rfl
          have l1 := hx3.at'.laterCellB 1 (v := .int .i64 k) rfl
          obtain ⟨xb3, hxb3, hsl3, hrx3, hlx3, hcv3'⟩ := hx3.cut s.src rfl (s.at' + 1) k HK1.out HK2.out
          clear hxb3 hsl3 hlx3 hcv3'
          have hcv3 := fun x : Later (Below u0.heap.size u0) => HCV.out x.w (hrx3.below x.ok (Nat.le_refl _))
          clear hb0 hx3 hrx3 d1
          refine do2_intro ?_
          simp only [pickOps, nth]
          (repeat (go_big_quiet_step (fail)))
          refine wpQuiet_nil ?_
          clear l0 l1 hcv3 hsl
          haveI : Nonempty World := ⟨w⟩
          (repeat (go_big_quiet_step (fail)))
          refine wpQuiet_nil ?_
          refine scn_store1 rfl 3 (.tmp 75) (.const (.int .i64 28)) rfl HX3.out { s.to k with sym := { s.sym with sym := 28 } } rfl rfl rfl (by kernel_rfl) rfl rfl rfl rfl HK2.out ?_
          intro w4 h2 k2 z2
          have HX4 := Lib.hid h2
          have HK4 := Lib.hid (HK3.out.trans k2)
          clear h2 k2 z2
          go_wp2_with fail
          refine mixK_step ?_
          haveI := later_all w4
          simp only [pickOps, nth]
          (repeat (go_big_quiet_step (fail)))
          refine wpQuiet_nil ?_
          refine scn_store1 rfl 9 (.tmp 78) (.tmp 72) rfl HX4.out { s.to k with sym := { s.sym with sym := 28, text := byt (cut s.src (s.at' + 1) k) } } rfl rfl rfl (by kernel_rfl) rfl (by rw [← HXB.out]; rfl) rfl rfl HK2.out ?_
          intro w5 h2 k2 z2
          have hx5 := h2
          have HX5 := Lib.hid h2
          have HK5 := Lib.hid (HK4.out.trans k2)
          have HA5 := Lib.hid (ke_all k2)
          have d0 : w5.cell? ⟨g, 0, none⟩ = some (.slice a s.src.length c) := (hx5.at'.cell 0).trans rfl
          have d1 : w5.cell? ⟨g, 1, none⟩ = some (.int .i64 k) := (hx5.at'.cell 1).trans rfl
          clear h2 k2 z2 hx5
          go_wp2_with fail
          refine ⟨HA5.out, mixK_end ?_⟩
          simp only [pickOps, nth]
          refine wpQuiet_nil ?_
          have hD := HD.out
          have f4 : True := trivial
          have f5 : True := trivial
          by_cases hD1 : D = 1
          · have HN2 : Hid (s.text = { s.to (k + 1) with sym := { s.sym with sym := 28, text := byt (cut s.src (s.at' + 1) k), val := u1 } }) := Lib.hid (by rw [HN.out, if_pos (by have := HK1.out; omega)])
            subst hD1
            obtain ⟨b, hab, hc⟩ := HX5.out.bytes (show 0 < s.src.length by have := HLT.out; omega)
            have e1 : w5.cell? ⟨b, s.at' + 1, none⟩ = some (.int .u8 u1) := (hc (s.at' + 1) (show s.at' + 1 < s.src.length by have := HK1.out; have := HKL.out; omega)).trans (by rw [show ({ s.to k with sym := { s.sym with sym := 28, text := byt (cut s.src (s.at' + 1) k) } } : Sc).src = s.src from rfl, HU1.out])
            rw [hab] at d0
            have t1 : ((s.at' : Int) + 1).toNat = s.at' + 1 := by omega
            have t2 : (s.at' : Int) + 1 < s.src.length := by have := HK1.out; have := HKL.out; omega
            have t3 : s.at' + 1 < s.src.length := by omega
            clear hc hab
            go_wp2_with (first | (have _f := f4; refine scn_store1 rfl 21 (.tmp 97) (.tmp 94) rfl HX5.out { s.to k with sym := { s.sym with sym := 28, text := byt (cut s.src (s.at' + 1) k), val := u1 } } rfl rfl rfl (by kernel_rfl) rfl rfl rfl rfl HK2.out ?_; intro w6 h2 k2 z2; have HX6 := Lib.hid h2; have HK6 := Lib.hid (HK5.out.trans k2); have d1' : w6.cell? ⟨g, 1, none⟩ = some (.int .i64 k) := (h2.at'.cell 1).trans rfl; clear h2 k2 z2 d0 d1 e1 _f f4) | (have _f := f5; refine scn_store1 rfl 3 (.tmp 104) (.tmp 102) rfl HX6.out { s.to (k + 1) with sym := { s.sym with sym := 28, text := byt (cut s.src (s.at' + 1) k), val := u1 } } rfl rfl rfl (by kernel_rfl) rfl rfl rfl rfl HKL.out ?_; intro w7 h2 k2 z2; have HX7 := Lib.hid h2; have HK7 := Lib.hid (HK6.out.trans k2); clear h2 k2 z2 d1' _f f5))
            go_end0
            exact ⟨rfl, ⟨n, by rw [HN2.out]; exact HX7.out⟩, HH.out.off HK7.out⟩
          · have g1 : (D == 1) = false := by simpa using hD1
            have HN2 : Hid (s.text = { s.to (k + 1) with sym := { s.sym with sym := 28, text := byt (cut s.src (s.at' + 1) k) } }) := Lib.hid (by rw [HN.out, if_neg (by have := HK1.out; omega)])
            go_wp2_with (have _f := f5; refine scn_store1 rfl 3 (.tmp 104) (.tmp 102) rfl HX5.out { s.to (k + 1) with sym := { s.sym with sym := 28, text := byt (cut s.src (s.at' + 1) k) } } rfl rfl rfl (by kernel_rfl) rfl rfl rfl rfl HKL.out ?_; intro w7 h2 k2 z2; have HX7 := Lib.hid h2; have HK7 := Lib.hid (HK5.out.trans k2); clear h2 k2 z2 d0 d1 _f f5)
            go_end0
            exact ⟨rfl, ⟨n, by rw [HN2.out]; exact HX7.out⟩, HH.out.off HK7.out⟩
      · have v4 : (v != 34) = true := by simpa using h34
        have hn : s.text = (s.to k).mark 4 := by
          unfold Sc.text
          simp only [hK]
          rw [hv, if_pos (.inl h34)]; rfl
        have HN := Lib.hid hn
        by_cases hkl : k < s.src.length
        · have hcs : v < 32 ∨ (32 ≤ v ∧ 127 ≤ v) := by
            rcases strB_not hst' with h | h | h
            · exact .inl h
            · exact .inr h
            · exact (h34 h).elim
          clear hx hk hgk hr hk1 hk2 hv hst hst' hK q1 q2 q3 q4 hn h34
          rcases hcs with v1 | ⟨v1, v2⟩
          · have dv : decide (32 ≤ v) = false := decide_eq_false (by omega)
            go_wp2
            go_quiet ((go_at_call 29; exact Calls.quiet_of (chq_is (HX.out.bel (belN _ _)) v HV.out)))
            have f1 : True := trivial
            go_wp2_with (first | (have _f := f1; refine (ch_is (HX.out.bel (belN _ _)) v HV.out).mono ?_; rintro e w2 ⟨rfl, hb⟩; have HX2 := Lib.hid ((HX.out.bel (belN _ _)).bel hb); have HK2' := Lib.hid (ke_bel (ke_bel HK.out (belN _ _)) hb); clear hb c0 c1 _f f1) | (refine (mark_walk HX2.out 4).mono ?_; rintro e w3 ⟨rfl, h1, h2, h3⟩; have HX3 := Lib.hid h1; have HK3' := Lib.hid (HK2'.out.trans h2); clear h1 h2 h3))
            go_end0
            exact ⟨rfl, ⟨n, by rw [HN.out]; exact HX3.out⟩, HH.out.off HK3'.out⟩
          · have dv : decide (v < 127) = false := decide_eq_false (by omega)
            go_wp2
            go_quiet ((go_at_call 29; exact Calls.quiet_of (chq_is (HX.out.bel (belN _ _)) v HV.out)))
            have f1 : True := trivial
            go_wp2_with (first | (have _f := f1; refine (ch_is (HX.out.bel (belN _ _)) v HV.out).mono ?_; rintro e w2 ⟨rfl, hb⟩; have HX2 := Lib.hid ((HX.out.bel (belN _ _)).bel hb); have HK2' := Lib.hid (ke_bel (ke_bel HK.out (belN _ _)) hb); clear hb c0 c1 _f f1) | (refine (mark_walk HX2.out 4).mono ?_; rintro e w3 ⟨rfl, h1, h2, h3⟩; have HX3 := Lib.hid h1; have HK3' := Lib.hid (HK2'.out.trans h2); clear h1 h2 h3))
            go_end0
            exact ⟨rfl, ⟨n, by rw [HN.out]; exact HX3.out⟩, HH.out.off HK3'.out⟩
        · have i3 : decide ((k : Int) < s.src.length) = false := decide_eq_false (by omega)
          clear hx hk hgk hr hk1 hk2 hv hst hst' hK q1 q2 q3 q4 hn h34
          go_wp2
          go_quiet ((go_at_call 29; exact Calls.quiet_of (chq_is (HX.out.bel (belN _ _)) v HV.out)))
          have f1 : True := trivial
          go_wp2_with (first | (have _f := f1; refine (ch_is (HX.out.bel (belN _ _)) v HV.out).mono ?_; rintro e w2 ⟨rfl, hb⟩; have HX2 := Lib.hid ((HX.out.bel (belN _ _)).bel hb); have HK2' := Lib.hid (ke_bel (ke_bel HK.out (belN _ _)) hb); clear hb c0 c1 _f f1) | (refine (mark_walk HX2.out 4).mono ?_; rintro e w3 ⟨rfl, h1, h2, h3⟩; have HX3 := Lib.hid h1; have HK3' := Lib.hid (HK2'.out.trans h2); clear h1 h2 h3))
          go_end0
          exact ⟨rfl, ⟨n, by rw [HN.out]; exact HX3.out⟩, HH.out.off HK3'.out⟩

end Go.Proofs.Ytdgiijidgjagbaa
