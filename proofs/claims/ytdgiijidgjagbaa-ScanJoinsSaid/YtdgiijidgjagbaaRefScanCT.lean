/- A branch of a round of the reference's Scan. Printed by bin/gen_refscan2.py. -/
import Derived.Test.YtdgiijidgjagbaaRefScanB
namespace Go.Proofs.Ytdgiijidgjagbaa
set_option linter.unusedVariables false
set_option linter.unusedSimpArgs false
open Go.RowKit

set_option maxRecDepth 1000000 in
set_option maxHeartbeats 16000000 in
theorem scan_T {w wo : World} {a : Option Addr} {c : Nat} {l : List Int} (h : RdI .u8 w a c l) (hl : l.length ≤ 65535) {g2 g3 m i : Nat} {ap np : Option Addr} {ac nc go : Nat} {nms : List (List UInt8)} (hrd : Rd l w wo g2 g3 m i (.slice ap m ac) (.slice np nms.length nc) nms) (hgk : l.length - i ≤ go)
    {j : Nat} (hb : blank l i = (true, j)) (hij : i ≤ j) (hjl : j < l.length) (he : (gets (Sc.fresh l) m).get = (stand l j nms).read) (c1 : letterB (l.getD j 0) = false) (c2 : digitB (l.getD j 0) = false) (c3 : l.getD j 0 = 34)
    {s19 s20 s21 s22 s23 s24 s25 u5 u6 u7 u8 u9 u10 u11 u12 u13 u14 u15 u16 u17 u18 u29 u30 u31 u32 u33 u34 u35 u36 u37 u38 u39 u40 u41 u42 u43 u44 u45 u46 u47 u48 u49 u50 u51 u52 u53 u54 u55 u56 u57 u58 u59 u60 u61 u62 u63 u64 u65 u66 u67 u68 u69 u70 u71 u72 u73 u74 u75 u76 u77 u78 u79 u80 u81 u82 u83 u84 u85 u86 u87 u88 u89 u90 u91 u92 u93 u94 u95 u96 u97 u98 u99 u100 u101 u102 u103 u104 u105 u106 u107 u108 u109 u110 u111 u112 u113 u114 u115 u116 u117 u118 u119 u120 u121 u122 u123 u124 u125 u126 u127 u128 u129 u130 u131 u132 u133 u134 u135 u136 u137 u138 u139 u140 u141 u142 u143 u144 u145 u146 u147 u148 u149 u150 u151 u152 u153 u154 u155 u156 u157 u158 u159 u160 u161 u162 u163 u164 u165 u166 u167 u168 u169 u170 u171 u172 u173 u174 u175 u176 u177 u178 u179 u180 u181 u182 u183 u184 u185 u186 u187 u188 u189 u190 u191 u192 u193 u194 u195 u196 u197 u198 u199 u200 u201 u202 u203 u204 u205 u206 u207 u208 u209 u210 u211 u212 u213 u214 u215 u216 u217 u218 u219 u220 u221 u222 u223 u224 u225 u226 u227 u228 u229 u230 u231 u232 u233 u234 u235 u236 u237 u238 u239 : Value} {J : Nat → Act → World → Prop} {K : Act → World → Prop} (hJ : ∀ k a' w', ScanI l w g2 g3 (.slice a l.length c) s19 s20 s21 s22 s23 s24 s25 k a' w' → J k a' w') (hK : ∀ a' w', Handed J go a' w' → K a' w') :
    Code.wp Try.prog scanBody (Exit.then K (Exit.inBlock 0 (bodyPost Try.prog Try.f18 (ScanRes l w)))) ⟨#[.slice a l.length c, undef, .pointer (some ⟨g2, 0, none⟩), .pointer (some ⟨g3, 0, none⟩), .int .i64 i, u5, u6, u7, u8, u9, u10, u11, u12, u13, u14, u15, u16, u17, u18, s19, s20, s21, s22, s23, s24, s25, undef, undef, undef, u29, u30, u31, u32, u33, u34, u35, u36, u37, u38, u39, u40, u41, u42, u43, u44, u45, u46, u47, u48, u49, u50, u51, u52, u53, u54, u55, u56, u57, u58, u59, u60, u61, u62, u63, u64, u65, u66, u67, u68, u69, u70, u71, u72, u73, u74, u75, u76, u77, u78, u79, u80, u81, u82, u83, u84, u85, u86, u87, u88, u89, u90, u91, u92, u93, u94, u95, u96, u97, u98, u99, u100, u101, u102, u103, u104, u105, u106, u107, u108, u109, u110, u111, u112, u113, u114, u115, u116, u117, u118, u119, u120, u121, u122, u123, u124, u125, u126, u127, u128, u129, u130, u131, u132, u133, u134, u135, u136, u137, u138, u139, u140, u141, u142, u143, u144, u145, u146, u147, u148, u149, u150, u151, u152, u153, u154, u155, u156, u157, u158, u159, u160, u161, u162, u163, u164, u165, u166, u167, u168, u169, u170, u171, u172, u173, u174, u175, u176, u177, u178, u179, u180, u181, u182, u183, u184, u185, u186, u187, u188, u189, u190, u191, u192, u193, u194, u195, u196, u197, u198, u199, u200, u201, u202, u203, u204, u205, u206, u207, u208, u209, u210, u211, u212, u213, u214, u215, u216, u217, u218, u219, u220, u221, u222, u223, u224, u225, u226, u227, u228, u229, u230, u231, u232, u233, u234, u235, u236, u237, u238, u239], []⟩ wo := by
  have HR := Lib.hid (fun (w' : World) (k : Below w.heap.size w w') => h.below k (Nat.le_refl _))
  have HC := Lib.hid (rd_cell h)
  have HL := Lib.hid hl
  have n0 : (0 : Int) ≤ l.length := by omega
  have n2 : (l.length : Int) ≤ 65535 := by omega
  have HD := Lib.hid hrd
  have HG := Lib.hid hgk
  have HI := Lib.hid hrd.le
  have HRR := Lib.hid (HR.out wo hrd.bel)
  have q1 : (0 : Int) ≤ i := by omega
  have q2 : (i : Int) ≤ 65535 := by have := hrd.le; omega
  have q3 : m ≤ 65535 := by have := hrd.le; have := hrd.mi; omega
  have q4 := hrd.nl
  have hsrc := hrd.fine.src
  have herr := hrd.fine.err
  have HBY := Lib.hid (show (m + 1) * 48 ≤ 140737488355328 by omega)
  have HB63 := Lib.hid (show m + 1 ≤ 140737488355328 by omega)
  clear h hl hrd hgk
  have fb : True := trivial
  have fe1 : True := trivial
  have fe2 : True := trivial
  have fe3 : True := trivial
  have fe4 : True := trivial
  conv => arg 2; whnf
  have HBL := Lib.hid hb
  have HU := Lib.hid he
  obtain ⟨b, o, rfl, hc⟩ := HC.out (by omega)
  obtain ⟨v, hv⟩ : ∃ v, l.getD j 0 = v := ⟨_, rfl⟩
  have HCJ := Lib.hid (fun (w' : World) (k : Below w.heap.size w w') => hc w' k j hjl)
  rw [hv] at HCJ
  have HCC := Lib.hid hc
  have HV := Lib.hid hv
  have HIJ := Lib.hid hij
  have HJL := Lib.hid hjl
  have j0 : (0 : Int) ≤ j := by omega
  have j1 : (j : Int) ≤ 65535 := by omega
  have j3 : (j : Int) < l.length := by omega
  clear hb he hsrc herr hc hv hij hjl
  have fx1 : True := trivial
  have fx2 : True := trivial
  have fl : True := trivial
  have fd : True := trivial
  have HLV : Hid (letterB v = false) := Lib.hid (HV.out ▸ c1)
  have HDV : Hid (digitB v = false) := Lib.hid (HV.out ▸ c2)
  have h34 : v = 34 := HV.out ▸ c3
  clear c1 c2 c3
  subst h34
  obtain ⟨K, hK⟩ : ∃ K, run strB l (j + 1) = K := ⟨_, rfl⟩
  have HT := Lib.hid (text_read (U := nms) HJL.out HV.out hK)
  have hkl := run_le (p := strB) (s := l) (i := j + 1) (by have := HJL.out; omega)
  rw [hK] at hkl
  have HKK := Lib.hid hK
  have HKL := Lib.hid hkl
  clear hK hkl
  have fs : True := trivial
  go_wp2_with (first | (have _f := fb; refine (blank_t HRR.out HL.out HI.out HBL.out).mono ?_; rintro e w1 ⟨rfl, hb⟩; have HB1 := Lib.hid hb; have HS1 := Lib.hid (HD.out.rs.sep.bel hb); clear hb; clear _f fb) | (have _f := fx1; refine alloc_sep rfl 30 rfl HS1.out (z := .agg #[.int .i64 0, .int .i64 0, .int .i32 0, .int .i64 0, .string ⟨#[]⟩]) (cs := #[.int .i64 0, .int .i64 0, .int .i32 0, .int .i64 0, .string ⟨#[]⟩]) (by kernel_rfl) rfl ?_; intro w2 S' b' s'; have HS2 := Lib.hid S'; have HB2 := Lib.hid b'; clear S' b' s'; clear _f fx1) | (have _f := fx2; refine store_sep (cells := #[.int .i64 0, .int .i64 j, .int .i32 0, .int .i64 0, .string ⟨#[]⟩]) rfl 30 (.tmp 7) (.tmp 43) rfl HS2.out 0 rfl rfl rfl (by kernel_rfl) rfl rfl ?_; intro w3 S' k' s'; have HS3 := Lib.hid S'; have HB3 := Lib.hid (bel_then HB1.out (((Ke.below (· = w1.heap.size) HB2.out).trans k').toBelow (fun i hi e => absurd e (Nat.ne_of_lt hi)))); clear S' k' s'; have HWW := Lib.hid (bel_then HD.out.bel HB3.out); have HRD3 := Lib.hid (HR.out w3 HWW.out); have HG1 := Lib.hid HB1.out.size; have HGW := Lib.hid (Nat.le_trans HD.out.bel.size HB1.out.size); have hbj : w3.cell? ⟨b, o + j, none⟩ = some (.int .u8 34) := HCJ.out w3 HWW.out; clear _f fx2) | (have _f := fl; refine (rletter_is 34 false HLV.out _).mono ?_; rintro e w' ⟨rfl, rfl⟩; clear _f fl) | (have _f := fd; refine (rdigit_is 34 false HDV.out _).mono ?_; rintro e w' ⟨rfl, rfl⟩; clear _f fd))
  go_loopg [16] l.length (fun gk kv wr => ∃ k : Nat, kv = .int .i64 k ∧ j + 1 ≤ k ∧ k ≤ K ∧ l.length - k ≤ gk ∧ run strB l k = K ∧ wr = w3)
  case atStart => exact ⟨j + 1, by go_num, Nat.le_refl _, HKL.out.1, Nat.sub_le _ _, HKK.out, rfl⟩
  case round =>
    obtain ⟨k, rfl, hjk, hkK, hgk, hrn, rfl⟩ := hrel
    have HJK := Lib.hid hjk
    have HKK2 := Lib.hid hkK
    have HGK := Lib.hid hgk
    have HRN := Lib.hid hrn
    have k0 : (0 : Int) ≤ k := by omega
    have k1 : (k : Int) ≤ 65535 := by have := HKL.out.2; omega
    have k2 : (j : Int) + 1 ≤ k := by omega
    obtain ⟨v2, hv2⟩ : ∃ v2, l.getD k 0 = v2 := ⟨_, rfl⟩
    have HV2 := Lib.hid hv2
    cases hst : strB v2
    · have hk : k = K := (run_no (by rw [hv2]; exact hst)).symm.trans hrn
      subst hk
      have hcs := str_no hst
      clear hjk hkK hgk hrn hv2 hst
      have HRAT := Lib.hid (rat_is HRD3.out k (k : Int) v2 rfl HV2.out (by omega))
      by_cases hq : v2 = 34
      · subst hq
        have c32 : (32 : Int) ≤ 34 := by decide
        obtain ⟨b', o', hbo, hcell⟩ : ∃ b' o', (some (⟨b, o, none⟩ : Addr)) = some ⟨b', o', none⟩ ∧ ∀ (w' : World), Below w.heap.size w w' → ∀ i, i < l.length → w'.cell? ⟨b', o' + i, none⟩ = some (.int .u8 (l.getD i 0)) := ⟨b, o, rfl, HCC.out⟩
        cases hbo
        have hkln : k < l.length := by
          rcases Nat.lt_or_ge k l.length with h' | h'
          · exact h'
          · have := HV2.out; rw [getD_end h'] at this; cases this
        have ck : wr.cell? ⟨b, o + k, none⟩ = some (.int .u8 34) := by have := hcell wr HWW.out k hkln; rw [HV2.out] at this; exact this
        have kl : (k : Int) < l.length := by omega
        have HKLN := Lib.hid hkln
        clear hcs hkln
        by_cases h63 : 63 < k - (j + 1)
        · have h63' : (63 : Int) < k - j - 1 := by omega
          have HTN := Lib.hid (HT.out.2 (by intro h; omega))
          have HUE := Lib.hid (show (gets (Sc.fresh l) m).get.err = 4 ∧ (gets (Sc.fresh l) m).get.pos = j ∧ (gets (Sc.fresh l) m).get.names = nms by rw [HU.out]; exact HTN.out)
          clear h63 hcell
          go_wp2_with (first | (refine HRAT.out.mono ?_; rintro e w1 ⟨rfl, rfl⟩) | (have _f := fe1; refine store1_sep (v := .int .i64 4) rfl 3 (.tmp 209) (.const (.int .i64 4)) rfl HS3.out 1 rfl rfl rfl rfl (by kernel_rfl) rfl ?_; intro wa S' k' s'; have Swa := Lib.hid S'; have Kwa := Lib.hid k'; clear S' k' s'; clear _f fe1) | (have _f := fe2; refine store1_sep (v := .int .i64 j) rfl 3 (.tmp 210) (.tmp 208) rfl Swa.out 1 rfl rfl rfl rfl (by kernel_rfl) rfl ?_; intro wb S' k' s'; have Swb := Lib.hid S'; have Kwb := Lib.hid k'; clear S' k' s'; clear _f fe2) | (have _f := fe3; refine load_sep (cs := #[.slice ap m ac, .slice np nms.length nc, .int .i64 4, .int .i64 j]) rfl 42 (.tmp 3) rfl Swb.out 1 rfl rfl Try.underlying42 rfl (by kernel_rfl) ?_; clear _f fe3) | (have _f := fe4; refine store_sep (cells := #[.slice ap m ac, .slice np nms.length nc, .int .i64 4, .int .i64 j]) rfl 42 (.tmp 2) (.tmp 211) rfl Swb.out 2 rfl rfl rfl (by kernel_rfl) rfl rfl ?_; intro wc S' k' s'; have Swc := Lib.hid S'; have Kwc := Lib.hid k'; clear S' k' s'; refine wpList_nil ?_; refine ‹∀ (a : Act) (w : World), Code.wp Try.prog Code.ret _ a w → _› _ _ ?_; refine wp_ret ?_; change bodyPost Try.prog Try.f18 (ScanRes l w) .ret _ _; exact bodyPost_ret (res_cell rfl rfl (Swc.out.at 2 rfl) Try.underlying42 rfl (by kernel_rfl)) rfl (HD.out.fail rfl HUE.out.1 HUE.out.2.1 HUE.out.2.2 (show (4 : Int) ≠ 0 by decide) HB3.out (((Kwa.out.trans Kwb.out).mono (fun _ _ h => .inl h)).trans (Kwc.out.mono (fun _ _ h => .inr h))))))
        · have h63' : ¬ (63 : Int) < k - j - 1 := by omega
          have HTY := Lib.hid (HT.out.1 ⟨HV2.out, by omega⟩)
          have HUU := Lib.hid (HU.out.trans HTY.out)
          obtain ⟨xb, hxb, hsl0, hcv⟩ := cut_rd (HR.out w (Below.refl _ _)) (j + 1) k HJK.out (by have := HKLN.out; omega)
          have HXB := Lib.hid hxb
          have HIE := Lib.hid (show i < k + 1 by have := HIJ.out; have := HJK.out; omega)
          have HDL := Lib.hid (show k + 1 ≤ l.length from HKLN.out)
          have HCV := Lib.hid hcv
          have hsl : ∀ W, (Instr.slice 23 (.slice (some ⟨b, o, none⟩) l.length c) (some (.int .i64 ((j : Int) + 1))) (some (.int .i64 (k : Int))) none).run Try.prog W = .ok (.slice (cutV (some ⟨b, o, none⟩) c (j + 1)) (k - (j + 1)) (c - (j + 1))) W := by
            intro W
            have := hsl0 W
            rw [show ((j + 1 : Nat) : Int) = (j : Int) + 1 by omega] at this
            exact this
          obtain ⟨v5, hv5⟩ : ∃ v5, l.getD (j + 1) 0 = v5 := ⟨_, rfl⟩
          have HV5 := Lib.hid hv5
          have hb5 : 0 ≤ v5 ∧ v5 < 256 := by rw [← hv5]; exact bd_u8 (HRD3.out.bd _ (getD_mem (by have := HKLN.out; have := HJK.out; omega)))
          have v50 := hb5.1
          have v51 := hb5.2
          have HC5 := Lib.hid (fun (w' : World) (kk : Below w.heap.size w w') => hcell w' kk (j + 1) (by have := HKLN.out; have := HJK.out; omega))
          rw [hv5] at HC5
          clear h63 hxb hsl0 hcv hv5 hb5 hcell
          go_wp2_with (first | (refine HRAT.out.mono ?_; rintro e w1 ⟨rfl, rfl⟩))
          refine wp_region_mixK (· = w1.heap.size) [([0, 1, 2, 3, 4, 5, 6], 7), ([8], 9)] [] (by kernel_rfl) (by kernel_rfl) (fun _ _ d _ _ h => by cases d <;> exact h) ?_
          intro wd hbd
          have HSd := Lib.hid (HS3.out.bel hbd)
          have HBd := Lib.hid (bel_then HB3.out hbd)
          have HWd := Lib.hid (bel_then HWW.out hbd)
          have HGw := Lib.hid (show w.heap.size ≤ w1.heap.size from Nat.le_trans HD.out.bel.size HB1.out.size)
          have lcv : ∀ x : Later (Ke (· = w1.heap.size) wd), (convert 23 9 (.slice (cutV (some ⟨b, o, none⟩) c (j + 1)) (k - (j + 1)) (c - (j + 1)))).run Try.prog x.w = .ok (.string xb) x.w := fun x => HCV.out x.w (set_bel HWd.out HGw.out x.ok)
          clear hbd
          refine mixK_step ?_
          simp only [pickOps, nth]
          (repeat (go_big_quiet_step (fail)))
          refine wpQuiet_nil ?_
          go_wp2_with (refine store1_sep (v := .int .i64 28) rfl 3 (.tmp 218) (.const (.int .i64 28)) rfl HSd.out 0 rfl rfl rfl rfl (by kernel_rfl) rfl ?_; intro we S' k' s'; have HSe := Lib.hid S'; have HBe := Lib.hid (set_bel HBd.out HG1.out k'); have HKe := Lib.hid k'; clear S' k' s')
          clear lcv
          refine ⟨HKe.out, mixK_step ?_⟩
          simp only [pickOps, nth, Act.put, List.setIfInBounds_toArray, List.set_cons_succ, List.set_cons_zero]
          (repeat (go_big_quiet_step (fail)))
          refine wpQuiet_nil ?_
          go_wp2_with (refine store1_sep (v := .string xb) rfl 9 (.tmp 219) (.tmp 217) rfl HSe.out 0 rfl rfl rfl rfl (by kernel_rfl) rfl ?_; intro wf S' k' s'; have HSf := Lib.hid S'; have HBf := Lib.hid (set_bel HBe.out HG1.out k'); have HKf := Lib.hid k'; clear S' k' s')
          refine ⟨HKf.out, mixK_end ?_⟩
          simp only [pickOps, nth, Act.put, List.setIfInBounds_toArray, List.set_cons_succ, List.set_cons_zero]
          refine wpQuiet_nil ?_
          have fq : True := trivial
          have ft1 : True := trivial
          have ft2 : True := trivial
          have ft3 : True := trivial
          by_cases h1 : k - (j + 1) = 1
          · have h1' : ((k : Int) - j - 1 == 1) = true := by
              have : (k : Int) - j - 1 = 1 := by omega
              simpa using this
            have HU1 : Hid ((gets (Sc.fresh l) m).get = ⟨l, k + 1, ⟨28, j, v5, 0, byt (cut l (j + 1) k)⟩, nms, 0, 0⟩) := Lib.hid (by rw [HUU.out, if_pos h1, HV5.out])
            have c5 : wf.cell? ⟨b, o + (j + 1), none⟩ = some (.int .u8 v5) := HC5.out wf (bel_then HD.out.bel HBf.out)
            have c6 : (j : Int) + 1 < l.length := by have := HKLN.out; omega
            clear h1
            go_wp2_with (first | (have _f := fq; refine store1_sep (v := .int .i32 v5) rfl 21 (.tmp 231) (.tmp 230) rfl HSf.out 0 rfl rfl rfl rfl (by kernel_rfl) rfl ?_; intro w6 S' k' s'; have Sw6 := Lib.hid S'; have Kw6 := Lib.hid k'; clear S' k' s'; have HB6 := Lib.hid (set_bel HBf.out HG1.out Kw6.out); have HRQ := Lib.hid (HD.out.rs.bel HB6.out); have HBQ := Lib.hid (bel_then HD.out.bel HB6.out); have HRS := Lib.hid (HRQ.out.bel (bel1 w6 (.cells #[.int .i64 28, .int .i64 j, .int .i32 v5, .int .i64 0, .string xb] 30))); have HOW : Hid ((w6.alloc (.cells #[.int .i64 28, .int .i64 j, .int .i32 v5, .int .i64 0, .string xb] 30)).ownsRow w.heap.size 30 5 (.slice ap m ac) m (symsC ((List.range m).map fun j => (gets (newS l) j).sym))) := Lib.hid (by have := HRS.out.a; rw [List.length_map, List.length_range] at this; exact this); have HRX := Lib.hid (rd_five w6 #[.int .i64 28, .int .i64 j, .int .i32 v5, .int .i64 0, .string xb] 30); have HONE : Hid (∀ u ∈ (#[.int .i64 28, .int .i64 j, .int .i32 v5, .int .i64 0, .string xb] : Array Value).toList, u.oneCell' = true) := Lib.hid (by intro u hu; simp at hu; rcases hu with rfl | rfl | rfl | rfl | rfl <;> rfl); have HBAS := Lib.hid HRS.out.base; have c0 : w6.cell? ⟨g3, 0, none⟩ = some (.slice ap m ac) := ((HRQ.out.sep.at 0 rfl).cell 0).trans rfl; clear _f fq) | (have _f := ft1; refine load_sep (cs := #[.int .i64 28, .int .i64 j, .int .i32 v5, .int .i64 0, .string xb]) rfl 30 (.tmp 7) rfl Sw6.out 0 rfl rfl Try.underlying30 rfl (by kernel_rfl) ?_; clear _f ft1) | (have _f := ft2; at_builtin; refine append_at rfl (.tmp 235) (.tmp 237) et_sym rfl w.heap.size rfl HOW.out rfl HRX.out rfl HONE.out HBY.out HB63.out HBAS.out ?_; intro v4 wt own4 gr4 at4; have HBt : Hid (Below w.heap.size w wt) := Lib.hid (grow_bel (bel_then HBQ.out (bel1 _ _)) HOW.out gr4); have HOt := Lib.hid own4; have HGR := Lib.hid (HRS.out.growA gr4); have HSt := Lib.hid HGR.out.1; obtain ⟨pa, pc, rfl, rd4⟩ := RdC.own own4; clear own4 gr4 at4 rd4 c0; clear _f ft2) | (have _f := ft3; refine store1_sep (v := .slice pa (m + 1) pc) rfl 38 (.tmp 239) (.tmp 238) rfl HSt.out 0 rfl rfl rfl rfl (by kernel_rfl) rfl ?_; intro wu S' k' s'; have Swu := Lib.hid S'; have Kwu := Lib.hid k'; clear S' k' s'; clear _f ft3))
            have HX5 : Hid (wu.ownsRow w.heap.size 30 5 (.slice pa (m + 1) pc) (m + 1) (symsC ((List.range m).map fun j => (gets (newS l) j).sym) ++ symC ⟨28, j, v5, 0, byt (cut l (j + 1) k)⟩)) := Lib.hid (by have h := row_on HOt.out (HSt.out.at 0 rfl) (by decide) Kwu.out; unfold symC; rw [HXB.out]; exact h)
            go_roundg (go - 1)
            case measure => have h1 := HG.out; have h2 := HIE.out; have h3 := HDL.out; omega
            case rel => exact ⟨m + 1, k + 1, _, _, nms, by go_num, by have h1 := HG.out; have h2 := HIE.out; have h3 := HDL.out; omega, HD.out.next HU1.out (show (28 : Int) ≠ 0 by decide) HIE.out HDL.out HD.out.kw HD.out.nd HD.out.nl Swu.out HX5.out (row_on HGR.out.2 (HSt.out.at 0 rfl) (by decide) Kwu.out) (set_bel HBt.out HRS.out.b3 Kwu.out)⟩
          · have h1' : ((k : Int) - j - 1 == 1) = false := by
              have : (k : Int) - j - 1 ≠ 1 := by omega
              simpa using this
            have HU1 : Hid ((gets (Sc.fresh l) m).get = ⟨l, k + 1, ⟨28, j, 0, 0, byt (cut l (j + 1) k)⟩, nms, 0, 0⟩) := Lib.hid (by rw [HUU.out, if_neg h1])
            clear h1
            have HRQ := Lib.hid (HD.out.rs.bel HBf.out)
            have HBQ := Lib.hid (bel_then HD.out.bel HBf.out)
            have HRS := Lib.hid (HRQ.out.bel (bel1 wf (.cells #[.int .i64 28, .int .i64 j, .int .i32 0, .int .i64 0, .string xb] 30)))
            have HOW : Hid ((wf.alloc (.cells #[.int .i64 28, .int .i64 j, .int .i32 0, .int .i64 0, .string xb] 30)).ownsRow w.heap.size 30 5 (.slice ap m ac) m (symsC ((List.range m).map fun j => (gets (newS l) j).sym))) := Lib.hid (by have := HRS.out.a; rw [List.length_map, List.length_range] at this; exact this)
            have HRX := Lib.hid (rd_five wf #[.int .i64 28, .int .i64 j, .int .i32 0, .int .i64 0, .string xb] 30)
            have HONE : Hid (∀ u ∈ (#[.int .i64 28, .int .i64 j, .int .i32 0, .int .i64 0, .string xb] : Array Value).toList, u.oneCell' = true) := Lib.hid (by intro u hu; simp at hu; rcases hu with rfl | rfl | rfl | rfl | rfl <;> rfl)
            have HBAS := Lib.hid HRS.out.base
            have c0 : wf.cell? ⟨g3, 0, none⟩ = some (.slice ap m ac) := ((HRQ.out.sep.at 0 rfl).cell 0).trans rfl
            go_wp2_with (first | (have _f := ft1; refine load_sep (cs := #[.int .i64 28, .int .i64 j, .int .i32 0, .int .i64 0, .string xb]) rfl 30 (.tmp 7) rfl HSf.out 0 rfl rfl Try.underlying30 rfl (by kernel_rfl) ?_; clear _f ft1) | (have _f := ft2; at_builtin; refine append_at rfl (.tmp 235) (.tmp 237) et_sym rfl w.heap.size rfl HOW.out rfl HRX.out rfl HONE.out HBY.out HB63.out HBAS.out ?_; intro v4 wt own4 gr4 at4; have HBt : Hid (Below w.heap.size w wt) := Lib.hid (grow_bel (bel_then HBQ.out (bel1 _ _)) HOW.out gr4); have HOt := Lib.hid own4; have HGR := Lib.hid (HRS.out.growA gr4); have HSt := Lib.hid HGR.out.1; obtain ⟨pa, pc, rfl, rd4⟩ := RdC.own own4; clear own4 gr4 at4 rd4 c0; clear _f ft2) | (have _f := ft3; refine store1_sep (v := .slice pa (m + 1) pc) rfl 38 (.tmp 239) (.tmp 238) rfl HSt.out 0 rfl rfl rfl rfl (by kernel_rfl) rfl ?_; intro wu S' k' s'; have Swu := Lib.hid S'; have Kwu := Lib.hid k'; clear S' k' s'; clear _f ft3))
            have HX5 : Hid (wu.ownsRow w.heap.size 30 5 (.slice pa (m + 1) pc) (m + 1) (symsC ((List.range m).map fun j => (gets (newS l) j).sym) ++ symC ⟨28, j, 0, 0, byt (cut l (j + 1) k)⟩)) := Lib.hid (by have h := row_on HOt.out (HSt.out.at 0 rfl) (by decide) Kwu.out; unfold symC; rw [HXB.out]; exact h)
            go_roundg (go - 1)
            case measure => have h1 := HG.out; have h2 := HIE.out; have h3 := HDL.out; omega
            case rel => exact ⟨m + 1, k + 1, _, _, nms, by go_num, by have h1 := HG.out; have h2 := HIE.out; have h3 := HDL.out; omega, HD.out.next HU1.out (show (28 : Int) ≠ 0 by decide) HIE.out HDL.out HD.out.kw HD.out.nd HD.out.nl Swu.out HX5.out (row_on HGR.out.2 (HSt.out.at 0 rfl) (by decide) Kwu.out) (set_bel HBt.out HRS.out.b3 Kwu.out)⟩
      · have hqb : (v2 != 34) = true := by simpa using hq
        have HTN := Lib.hid (HT.out.2 (by intro h; exact hq (HV2.out.symm.trans h.1)))
        have HUE := Lib.hid (show (gets (Sc.fresh l) m).get.err = 4 ∧ (gets (Sc.fresh l) m).get.pos = j ∧ (gets (Sc.fresh l) m).get.names = nms by rw [HU.out]; exact HTN.out)
        have hcs2 : v2 < 32 ∨ (32 ≤ v2 ∧ ¬ v2 < 127) := by omega
        clear hq hcs
        rcases hcs2 with h32 | ⟨h32, h127⟩
        · skip
          go_wp2_with (first | (refine HRAT.out.mono ?_; rintro e w1 ⟨rfl, rfl⟩) | (have _f := fe1; refine store1_sep (v := .int .i64 4) rfl 3 (.tmp 209) (.const (.int .i64 4)) rfl HS3.out 1 rfl rfl rfl rfl (by kernel_rfl) rfl ?_; intro wa S' k' s'; have Swa := Lib.hid S'; have Kwa := Lib.hid k'; clear S' k' s'; clear _f fe1) | (have _f := fe2; refine store1_sep (v := .int .i64 j) rfl 3 (.tmp 210) (.tmp 208) rfl Swa.out 1 rfl rfl rfl rfl (by kernel_rfl) rfl ?_; intro wb S' k' s'; have Swb := Lib.hid S'; have Kwb := Lib.hid k'; clear S' k' s'; clear _f fe2) | (have _f := fe3; refine load_sep (cs := #[.slice ap m ac, .slice np nms.length nc, .int .i64 4, .int .i64 j]) rfl 42 (.tmp 3) rfl Swb.out 1 rfl rfl Try.underlying42 rfl (by kernel_rfl) ?_; clear _f fe3) | (have _f := fe4; refine store_sep (cells := #[.slice ap m ac, .slice np nms.length nc, .int .i64 4, .int .i64 j]) rfl 42 (.tmp 2) (.tmp 211) rfl Swb.out 2 rfl rfl rfl (by kernel_rfl) rfl rfl ?_; intro wc S' k' s'; have Swc := Lib.hid S'; have Kwc := Lib.hid k'; clear S' k' s'; refine wpList_nil ?_; refine ‹∀ (a : Act) (w : World), Code.wp Try.prog Code.ret _ a w → _› _ _ ?_; refine wp_ret ?_; change bodyPost Try.prog Try.f18 (ScanRes l w) .ret _ _; exact bodyPost_ret (res_cell rfl rfl (Swc.out.at 2 rfl) Try.underlying42 rfl (by kernel_rfl)) rfl (HD.out.fail rfl HUE.out.1 HUE.out.2.1 HUE.out.2.2 (show (4 : Int) ≠ 0 by decide) HB3.out (((Kwa.out.trans Kwb.out).mono (fun _ _ h => .inl h)).trans (Kwc.out.mono (fun _ _ h => .inr h))))))
        · skip
          go_wp2_with (first | (refine HRAT.out.mono ?_; rintro e w1 ⟨rfl, rfl⟩) | (have _f := fe1; refine store1_sep (v := .int .i64 4) rfl 3 (.tmp 209) (.const (.int .i64 4)) rfl HS3.out 1 rfl rfl rfl rfl (by kernel_rfl) rfl ?_; intro wa S' k' s'; have Swa := Lib.hid S'; have Kwa := Lib.hid k'; clear S' k' s'; clear _f fe1) | (have _f := fe2; refine store1_sep (v := .int .i64 j) rfl 3 (.tmp 210) (.tmp 208) rfl Swa.out 1 rfl rfl rfl rfl (by kernel_rfl) rfl ?_; intro wb S' k' s'; have Swb := Lib.hid S'; have Kwb := Lib.hid k'; clear S' k' s'; clear _f fe2) | (have _f := fe3; refine load_sep (cs := #[.slice ap m ac, .slice np nms.length nc, .int .i64 4, .int .i64 j]) rfl 42 (.tmp 3) rfl Swb.out 1 rfl rfl Try.underlying42 rfl (by kernel_rfl) ?_; clear _f fe3) | (have _f := fe4; refine store_sep (cells := #[.slice ap m ac, .slice np nms.length nc, .int .i64 4, .int .i64 j]) rfl 42 (.tmp 2) (.tmp 211) rfl Swb.out 2 rfl rfl rfl (by kernel_rfl) rfl rfl ?_; intro wc S' k' s'; have Swc := Lib.hid S'; have Kwc := Lib.hid k'; clear S' k' s'; refine wpList_nil ?_; refine ‹∀ (a : Act) (w : World), Code.wp Try.prog Code.ret _ a w → _› _ _ ?_; refine wp_ret ?_; change bodyPost Try.prog Try.f18 (ScanRes l w) .ret _ _; exact bodyPost_ret (res_cell rfl rfl (Swc.out.at 2 rfl) Try.underlying42 rfl (by kernel_rfl)) rfl (HD.out.fail rfl HUE.out.1 HUE.out.2.1 HUE.out.2.2 (show (4 : Int) ≠ 0 by decide) HB3.out (((Kwa.out.trans Kwb.out).mono (fun _ _ h => .inl h)).trans (Kwc.out.mono (fun _ _ h => .inr h))))))
    · have hy := run_yes (p := strB) (by rfl) (hv2.symm ▸ hst)
      have hlt := hy.2
      have hcs := str_yes hst
      have HYN := Lib.hid (hy.1.symm.trans hrn)
      have HLT := Lib.hid hlt
      have c1 : 32 ≤ v2 := hcs.1
      have c2 : v2 < 127 := hcs.2.1
      have c3 : (v2 != 34) = true := by simpa using hcs.2.2
      have ck : wr.cell? ⟨b, o + k, none⟩ = some (.int .u8 v2) := by have := HCC.out wr HWW.out k hlt; rw [HV2.out] at this; exact this
      have kl : (k : Int) < l.length := by omega
      have HKL2 := Lib.hid (show k + 1 ≤ K by have := run_le (p := strB) (s := l) (i := k + 1) (by omega); rw [HYN.out] at this; omega)
      have HRAT := Lib.hid (rat_is HRD3.out k (k : Int) v2 rfl HV2.out (by omega))
      clear hjk hkK hgk hrn hv2 hst hy hlt hcs
      go_wp2_with (first | (refine HRAT.out.mono ?_; rintro e w1 ⟨rfl, rfl⟩))
      go_roundg (gk - 1)
      case measure => have := HGK.out; have := HLT.out; omega
      case rel => exact ⟨k + 1, by go_num, by have := HJK.out; omega, HKL2.out, by have := HGK.out; omega, HYN.out, rfl⟩

end Go.Proofs.Ytdgiijidgjagbaa
