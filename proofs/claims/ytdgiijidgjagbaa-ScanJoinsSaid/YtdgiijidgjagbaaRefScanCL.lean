/- A branch of a round of the reference's Scan. Printed by bin/gen_refscan2.py. -/
import Derived.Test.YtdgiijidgjagbaaRefScanB
namespace Go.Proofs.Ytdgiijidgjagbaa
set_option linter.unusedVariables false
set_option linter.unusedSimpArgs false
open Go.RowKit

set_option maxRecDepth 1000000 in
set_option maxHeartbeats 16000000 in
theorem scan_L {w wo : World} {a : Option Addr} {c : Nat} {l : List Int} (h : RdI .u8 w a c l) (hl : l.length ≤ 65535) {g2 g3 m i : Nat} {ap np : Option Addr} {ac nc go : Nat} {nms : List (List UInt8)} (hrd : Rd l w wo g2 g3 m i (.slice ap m ac) (.slice np nms.length nc) nms) (hgk : l.length - i ≤ go)
    {j : Nat} (hb : blank l i = (true, j)) (hij : i ≤ j) (hjl : j < l.length) (he : (gets (Sc.fresh l) m).get = (stand l j nms).read) (c1 : letterB (l.getD j 0) = true)
    {s19 s20 s21 s22 s23 s24 s25 u5 u6 u7 u8 u9 u10 u11 u12 u13 u14 u15 u16 u17 u18 u29 u30 u31 u32 u33 u34 u35 u36 u37 u38 u39 u40 u41 u42 u43 u44 u45 u46 u47 u48 u49 u50 u51 u52 u53 u54 u55 u56 u57 u58 u59 u60 u61 u62 u63 u64 u65 u66 u67 u68 u69 u70 u71 u72 u73 u74 u75 u76 u77 u78 u79 u80 u81 u82 u83 u84 u85 u86 u87 u88 u89 u90 u91 u92 u93 u94 u95 u96 u97 u98 u99 u100 u101 u102 u103 u104 u105 u106 u107 u108 u109 u110 u111 u112 u113 u114 u115 u116 u117 u118 u119 u120 u121 u122 u123 u124 u125 u126 u127 u128 u129 u130 u131 u132 u133 u134 u135 u136 u137 u138 u139 u140 u141 u142 u143 u144 u145 u146 u147 u148 u149 u150 u151 u152 u153 u154 u155 u156 u157 u158 u159 u160 u161 u162 u163 u164 u165 u166 u167 u168 u169 u170 u171 u172 u173 u174 u175 u176 u177 u178 u179 u180 u181 u182 u183 u184 u185 u186 u187 u188 u189 u190 u191 u192 u193 u194 u195 u196 u197 u198 u199 u200 u201 u202 u203 u204 u205 u206 u207 u208 u209 u210 u211 u212 u213 u214 u215 u216 u217 u218 u219 u220 u221 u222 u223 u224 u225 u226 u227 u228 u229 u230 u231 u232 u233 u234 u235 u236 u237 u238 u239 : Value} {J : Nat → Act → World → Prop} {K : Act → World → Prop} (hJ : ∀ k a' w', ScanI l w g2 g3 (.slice a l.length c) s19 s20 s21 s22 s23 s24 s25 k a' w' → J k a' w') (hK : ∀ a' w', Handed J go a' w' → K a' w') :
    Code.wp Try.prog scanBody (Exit.then K (Exit.inBlock 0 (bodyPost Try.prog Try.f18 (ScanRes l w)))) ⟨#[.slice a l.length c, undef, .pointer (some ⟨g2, 0, none⟩), .pointer (some ⟨g3, 0, none⟩), .int .i64 i, u5, u6, u7, u8, u9, u10, u11, u12, u13, u14, u15, u16, u17, u18, s19, s20, s21, s22, s23, s24, s25, undef, undef, undef, u29, u30, u31, u32, u33, u34, u35, u36, u37, u38, u39, u40, u41, u42, u43, u44, u45, u46, u47, u48, u49, u50, u51, u52, u53, u54, u55, u56, u57, u58, u59, u60, u61, u62, u63, u64, u65, u66, u67, u68, u69, u70, u71, u72, u73, u74, u75, u76, u77, u78, u79, u80, u81, u82, u83, u84, u85, u86, u87, u88, u89, u90, u91, u92, u93, u94, u95, u96, u97, u98, u99, u100, u101, u102, u103, u104, u105, u106, u107, u108, u109, u110, u111, u112, u113, u114, u115, u116, u117, u118, u119, u120, u121, u122, u123, u124, u125, u126, u127, u128, u129, u130, u131, u132, u133, u134, u135, u136, u137, u138, u139, u140, u141, u142, u143, u144, u145, u146, u147, u148, u149, u150, u151, u152, u153, u154, u155, u156, u157, u158, u159, u160, u161, u162, u163, u164, u165, u166, u167, u168, u169, u170, u171, u172, u173, u174, u175, u176, u177, u178, u179, u180, u181, u182, u183, u184, u185, u186, u187, u188, u189, u190, u191, u192, u193, u194, u195, u196, u197, u198, u199, u200, u201, u202, u203, u204, u205, u206, u207, u208, u209, u210, u211, u212, u213, u214, u215, u216, u217, u218, u219, u220, u221, u222, u223, u224, u225, u226, u227, u228, u229, u230, u231, u232, u233, u234, u235, u236, u237, u238, u239], []⟩ wo := by
  have HR := Lib.hid (fun (w' : World) (k : Below w.heap.size w w') => h.below k (Nat.le_refl _))
  have HC := Lib.hid (rd_cell h)
  have HL := Lib.hid hl
  have n0 : (0 : Int) ≤ l.length := by omega
  have n2 : (l.length : Int) ≤ 65535 := by omega
  have HD := Lib.hid hrd
  have HG := Lib.hid hgk
  have HI := Lib.hid hrd.le
  have HRR := Lib.hid (HR.out wo hrd.bel)
  have q1 : (0 : Int) ≤ i := by omega
  have q2 : (i : Int) ≤ 65535 := by have := hrd.le; omega
  have q3 : m ≤ 65535 := by have := hrd.le; have := hrd.mi; omega
  have q4 := hrd.nl
  have hsrc := hrd.fine.src
  have herr := hrd.fine.err
  have HBY := Lib.hid (show (m + 1) * 48 ≤ 140737488355328 by omega)
  have HB63 := Lib.hid (show m + 1 ≤ 140737488355328 by omega)
  clear h hl hrd hgk
  have fb : True := trivial
  have fe1 : True := trivial
  have fe2 : True := trivial
  have fe3 : True := trivial
  have fe4 : True := trivial
  conv => arg 2; whnf
  have HBL := Lib.hid hb
  have HU := Lib.hid he
  obtain ⟨b, o, rfl, hc⟩ := HC.out (by omega)
  obtain ⟨v, hv⟩ : ∃ v, l.getD j 0 = v := ⟨_, rfl⟩
  have HCJ := Lib.hid (fun (w' : World) (k : Below w.heap.size w w') => hc w' k j hjl)
  rw [hv] at HCJ
  have HCC := Lib.hid hc
  have HV := Lib.hid hv
  have HIJ := Lib.hid hij
  have HJL := Lib.hid hjl
  have j0 : (0 : Int) ≤ j := by omega
  have j1 : (j : Int) ≤ 65535 := by omega
  have j3 : (j : Int) < l.length := by omega
  clear hb he hsrc herr hc hv hij hjl
  have fx1 : True := trivial
  have fx2 : True := trivial
  have fl : True := trivial
  have fd : True := trivial
  have hlv : letterB v = true := HV.out ▸ c1
  clear c1
  have HLV : Hid (letterB v = true) := Lib.hid hlv
  have hlv' : letterB (l.getD j 0) = true := by rw [HV.out]; exact hlv
  have HRN0 := Lib.hid (read_name (S := l) (U := nms) HJL.out hlv')
  obtain ⟨K, hK⟩ : ∃ K, run ldB l j = K := ⟨_, rfl⟩
  have hkl := run_le (p := ldB) (s := l) (i := j) (by have := HJL.out; omega)
  have hy0 := run_yes (p := ldB) rfl (by unfold ldB; rw [hlv']; rfl : ldB (l.getD j 0) = true)
  have hkl2 := run_le (p := ldB) (s := l) (i := j + 1) (by have := HJL.out; omega)
  rw [← hy0.1] at hkl2
  rw [hK] at hkl hkl2
  have HKK := Lib.hid hK
  have HKL := Lib.hid hkl
  have HKL1 := Lib.hid hkl2.1
  have HNR := Lib.hid (name_read (S := l) (U := nms) hK HD.out.kw)
  obtain ⟨x, hx⟩ : ∃ x, byt (cut l j K) = x := ⟨_, rfl⟩
  rw [hx] at HNR
  have HX := Lib.hid hx
  clear hlv hlv' hK hkl hkl2 hy0 hx
  go_wp2_with (first | (have _f := fb; refine (blank_t HRR.out HL.out HI.out HBL.out).mono ?_; rintro e w1 ⟨rfl, hb⟩; have HB1 := Lib.hid hb; have HS1 := Lib.hid (HD.out.rs.sep.bel hb); clear hb; clear _f fb) | (have _f := fx1; refine alloc_sep rfl 30 rfl HS1.out (z := .agg #[.int .i64 0, .int .i64 0, .int .i32 0, .int .i64 0, .string ⟨#[]⟩]) (cs := #[.int .i64 0, .int .i64 0, .int .i32 0, .int .i64 0, .string ⟨#[]⟩]) (by kernel_rfl) rfl ?_; intro w2 S' b' s'; have HS2 := Lib.hid S'; have HB2 := Lib.hid b'; clear S' b' s'; clear _f fx1) | (have _f := fx2; refine store_sep (cells := #[.int .i64 0, .int .i64 j, .int .i32 0, .int .i64 0, .string ⟨#[]⟩]) rfl 30 (.tmp 7) (.tmp 43) rfl HS2.out 0 rfl rfl rfl (by kernel_rfl) rfl rfl ?_; intro w3 S' k' s'; have HS3 := Lib.hid S'; have HB3 := Lib.hid (bel_then HB1.out (((Ke.below (· = w1.heap.size) HB2.out).trans k').toBelow (fun i hi e => absurd e (Nat.ne_of_lt hi)))); clear S' k' s'; have HWW := Lib.hid (bel_then HD.out.bel HB3.out); have HRD3 := Lib.hid (HR.out w3 HWW.out); have HG1 := Lib.hid HB1.out.size; have HGW := Lib.hid (Nat.le_trans HD.out.bel.size HB1.out.size); have hbj : w3.cell? ⟨b, o + j, none⟩ = some (.int .u8 v) := HCJ.out w3 HWW.out; clear _f fx2) | (have _f := fl; refine (rletter_is v true HLV.out _).mono ?_; rintro e w' ⟨rfl, rfl⟩; clear _f fl))
  go_loopg [8] l.length (fun gk kv wr => ∃ k : Nat, kv = .int .i64 k ∧ j ≤ k ∧ k ≤ K ∧ l.length - k ≤ gk ∧ run ldB l k = K ∧ wr = w3)
  case atStart => exact ⟨j, rfl, Nat.le_refl _, HKL.out.1, Nat.sub_le _ _, HKK.out, rfl⟩
  case round =>
    obtain ⟨k, rfl, hjk, hkK, hgk, hrn, rfl⟩ := hrel
    have HJK := Lib.hid hjk
    have HGK := Lib.hid hgk
    have k0 : (0 : Int) ≤ k := by omega
    have k1 : (k : Int) ≤ 65535 := by have := HKL.out.2; omega
    have k2 : (j : Int) ≤ k := by omega
    obtain ⟨v2, hv2⟩ : ∃ v2, l.getD k 0 = v2 := ⟨_, rfl⟩
    have HV2 := Lib.hid hv2
    have HRAT := Lib.hid (rat_is HRD3.out k (k : Int) v2 rfl HV2.out (by omega))
    cases hst : ldB v2
    · have hk : k = K := (run_no (by rw [hv2]; exact hst)).symm.trans hrn
      subst hk
      have hl2 : letterB v2 = false ∧ digitB v2 = false := by unfold ldB at hst; simpa using hst
      have HL2 := Lib.hid hl2.1
      have HD2 := Lib.hid hl2.2
      clear hjk hkK hgk hrn hv2 hst hl2
      by_cases h15 : 15 < k - j
      · have h15' : (15 : Int) < k - j := by omega
        have HUE : Hid ((gets (Sc.fresh l) m).get = ⟨l, k, Sym.at j, nms, 3, j⟩) := Lib.hid (by
          rw [HU.out, HRN0.out]
          rcases HNR.out with ⟨h1, _⟩ | ⟨_, h2⟩ | ⟨h1, _⟩
          · omega
          · exact h2
          · omega)
        clear h15
        go_wp2_with (first | (refine HRAT.out.mono ?_; rintro e w1 ⟨rfl, rfl⟩) | (refine (rletter_is v2 false HL2.out _).mono ?_; rintro e w1 ⟨rfl, rfl⟩) | (refine (rdigit_is v2 false HD2.out _).mono ?_; rintro e w1 ⟨rfl, rfl⟩) | (have _f := fe1; refine store1_sep (v := .int .i64 3) rfl 3 (.tmp 94) (.const (.int .i64 3)) rfl HS3.out 1 rfl rfl rfl rfl (by kernel_rfl) rfl ?_; intro wa S' k' s'; have Swa := Lib.hid S'; have Kwa := Lib.hid k'; clear S' k' s'; clear _f fe1) | (have _f := fe2; refine store1_sep (v := .int .i64 j) rfl 3 (.tmp 95) (.tmp 93) rfl Swa.out 1 rfl rfl rfl rfl (by kernel_rfl) rfl ?_; intro wb S' k' s'; have Swb := Lib.hid S'; have Kwb := Lib.hid k'; clear S' k' s'; clear _f fe2) | (have _f := fe3; refine load_sep (cs := #[.slice ap m ac, .slice np nms.length nc, .int .i64 3, .int .i64 j]) rfl 42 (.tmp 3) rfl Swb.out 1 rfl rfl Try.underlying42 rfl (by kernel_rfl) ?_; clear _f fe3) | (have _f := fe4; refine store_sep (cells := #[.slice ap m ac, .slice np nms.length nc, .int .i64 3, .int .i64 j]) rfl 42 (.tmp 2) (.tmp 96) rfl Swb.out 2 rfl rfl rfl (by kernel_rfl) rfl rfl ?_; intro wc S' k' s'; have Swc := Lib.hid S'; have Kwc := Lib.hid k'; clear S' k' s'; refine wpList_nil ?_; refine ‹∀ (a : Act) (w : World), Code.wp Try.prog Code.ret _ a w → _› _ _ ?_; refine wp_ret ?_; change bodyPost Try.prog Try.f18 (ScanRes l w) .ret _ _; exact bodyPost_ret (res_cell rfl rfl (Swc.out.at 2 rfl) Try.underlying42 rfl (by kernel_rfl)) rfl (HD.out.fail HUE.out rfl rfl rfl (show (3 : Int) ≠ 0 by decide) HB3.out (((Kwa.out.trans Kwb.out).mono (fun _ _ h => .inl h)).trans (Kwc.out.mono (fun _ _ h => .inr h))))))
      · have h15' : ¬ (15 : Int) < k - j := by omega
        obtain ⟨xb, hxb, hsl, hcv⟩ := cut_rd (HR.out w (Below.refl _ _)) j k HJK.out HKL.out.2
        have hcvw := hcv wr HWW.out
        rw [HX.out] at hxb
        have HXB := Lib.hid hxb
        have HRQ3 := Lib.hid (HD.out.rs.bel HB3.out)
        have cn : wr.cell? ⟨g3, 1, none⟩ = some (.slice np nms.length nc) := ((HRQ3.out.sep.at 0 rfl).cell 1).trans rfl
        obtain ⟨bn, on, hnp, hnc⟩ := HRQ3.out.name
        have HNP := Lib.hid hnp
        have HNC := Lib.hid hnc
        have HND := Lib.hid HD.out.nd
        have hkl29 : 29 ≤ nms.length := by obtain ⟨r, hr⟩ := HD.out.kw; rw [hr, List.length_append]; have : kwB.length = 29 := rfl; omega
        clear h15 hcv hxb hnp hnc
        go_wp2_with (first | (refine HRAT.out.mono ?_; rintro e w1 ⟨rfl, rfl⟩) | (refine (rletter_is v2 false HL2.out _).mono ?_; rintro e w1 ⟨rfl, rfl⟩) | (refine (rdigit_is v2 false HD2.out _).mono ?_; rintro e w1 ⟨rfl, rfl⟩))
        obtain ⟨gi, rfl⟩ : ∃ gi, gi = gk := ⟨_, rfl⟩
        obtain ⟨w3, rfl⟩ : ∃ w3, w3 = wr := ⟨_, rfl⟩
        go_loopg [10, 11] nms.length (fun gk idv nv wr => ∃ (n : Nat) (id0 : Int), idv = .int .i64 id0 ∧ nv = .int .i64 n ∧ n ≤ nms.length ∧ nms.length - n ≤ gk ∧ idAt nms x n = id0 ∧ wr = w3)
        case atStart => exact ⟨0, -1, rfl, rfl, Nat.zero_le _, Nat.sub_le _ _, idAt_zero _ _, rfl⟩
        case round =>
          obtain ⟨n, id0, rfl, rfl, hn, hgn, hid, rfl⟩ := hrel
          have HGN := Lib.hid hgn
          have HID := Lib.hid hid
          have n0 : (0 : Int) ≤ n := by omega
          have n1 : (n : Int) ≤ 700 := by omega
          have n2 : (nms.length : Int) ≤ 700 := by omega
          by_cases hnl : n < nms.length
          · have hnl' : (n : Int) < nms.length := by omega
            have HNL := Lib.hid hnl
            obtain rfl := HNP.out (by omega)
            obtain ⟨sb, hsb⟩ : ∃ sb : ByteArray, nameV (nms.getD n []) = .string sb := ⟨_, rfl⟩
            have cw := HNC.out n hnl
            rw [hsb] at cw
            have hcmp := name_str hsb HXB.out
            by_cases hq : nms.getD n [] = x
            · rw [decide_eq_true hq] at hcmp
              have HN1 := Lib.hid (idAt_hit HND.out hnl hq)
              clear hn hgn hid hnl hsb hq
              go_wp2
              go_roundg (gk - 1)
              case measure => have := HGN.out; have := HNL.out; omega
              case rel => exact ⟨n + 1, _, rfl, by go_num, HNL.out, by have := HGN.out; omega, HN1.out, rfl⟩
            · rw [decide_eq_false hq] at hcmp
              have HN1 := Lib.hid ((idAt_no hnl hq).trans HID.out)
              clear hn hgn hid hnl hsb hq
              go_wp2
              go_roundg (gk - 1)
              case measure => have := HGN.out; have := HNL.out; omega
              case rel => exact ⟨n + 1, _, rfl, by go_num, HNL.out, by have := HGN.out; omega, HN1.out, rfl⟩
          · have hnn : n = nms.length := by omega
            subst hnn
            rw [idAt_end] at hid
            clear hn hgn hnl HID
            by_cases hin : x ∈ nms
            · rw [if_pos hin] at hid
              subst hid
              obtain ⟨q, hq⟩ : ∃ q, nms.idxOf x = q := ⟨_, rfl⟩
              have hqlt : q < nms.length := by rw [← hq]; exact List.idxOf_lt_length_of_mem hin
              have hki := kw_idx HD.out.kw x
              rw [hq] at hki ⊢
              have q01 : (0 : Int) ≤ q := by omega
              have q02 : (q : Int) ≤ 700 := by omega
              have HINS : Hid (ins nms x = nms) := Lib.hid (by unfold ins; rw [if_pos hin])
              have HDL := Lib.hid HKL.out.2
              have HIE := Lib.hid (show i < k by have := HIJ.out; have := HKL1.out; omega)
              by_cases hkw : x ∈ kwB
              · have q29 : (q : Int) < 29 := by have := (hki.1 hkw).2.1; omega
                have HUU : Hid ((gets (Sc.fresh l) m).get = ⟨l, k, ⟨30 + (q : Int), j, 0, 0, []⟩, nms, 0, 0⟩) := Lib.hid (by
                  rw [HU.out, HRN0.out]
                  rcases HNR.out with ⟨_, _, h3⟩ | ⟨h1, _⟩ | ⟨_, h1, _⟩
                  · rw [h3, HINS.out, if_pos hkw, ← (hki.1 hkw).1]
                  · omega
                  · exact (h1 hin).elim)
                have HMZ := Lib.hid (show (30 + (q : Int)) ≠ 0 by omega)
                clear hin hq hqlt hki hkw
                have fq : True := trivial
                have ft1 : True := trivial
                have ft2 : True := trivial
                have ft3 : True := trivial
                go_wp2_with (first | (have _f := fq; refine store1_sep (v := .int .i64 (30 + (q : Int))) rfl 3 (.tmp 140) (.tmp 139) rfl HS3.out 0 rfl rfl rfl rfl (by kernel_rfl) rfl ?_; intro w5 S' k' s'; have Sw5 := Lib.hid S'; have Kw5 := Lib.hid k'; clear S' k' s'; have HB5 := Lib.hid (set_bel HB3.out HG1.out Kw5.out); have HRQ := Lib.hid (HD.out.rs.bel HB5.out); have HBQ := Lib.hid (bel_then HD.out.bel HB5.out); have HRS := Lib.hid (HRQ.out.bel (bel1 w5 (.cells #[.int .i64 (30 + (q : Int)), .int .i64 j, .int .i32 0, .int .i64 0, .string ⟨#[]⟩] 30))); have HOW : Hid ((w5.alloc (.cells #[.int .i64 (30 + (q : Int)), .int .i64 j, .int .i32 0, .int .i64 0, .string ⟨#[]⟩] 30)).ownsRow w.heap.size 30 5 (.slice ap m ac) m (symsC ((List.range m).map fun j => (gets (newS l) j).sym))) := Lib.hid (by have := HRS.out.a; rw [List.length_map, List.length_range] at this; exact this); have HRX := Lib.hid (rd_five w5 #[.int .i64 (30 + (q : Int)), .int .i64 j, .int .i32 0, .int .i64 0, .string ⟨#[]⟩] 30); have HONE : Hid (∀ u ∈ (#[.int .i64 (30 + (q : Int)), .int .i64 j, .int .i32 0, .int .i64 0, .string ⟨#[]⟩] : Array Value).toList, u.oneCell' = true) := Lib.hid (by intro u hu; simp at hu; rcases hu with rfl | rfl | rfl | rfl | rfl <;> rfl); have HBAS := Lib.hid HRS.out.base; have c0 : w5.cell? ⟨g3, 0, none⟩ = some (.slice ap m ac) := ((HRQ.out.sep.at 0 rfl).cell 0).trans rfl; clear _f fq) | (have _f := ft1; refine load_sep (cs := #[.int .i64 (30 + (q : Int)), .int .i64 j, .int .i32 0, .int .i64 0, .string ⟨#[]⟩]) rfl 30 (.tmp 7) rfl Sw5.out 0 rfl rfl Try.underlying30 rfl (by kernel_rfl) ?_; clear _f ft1) | (have _f := ft2; at_builtin; refine append_at rfl (.tmp 235) (.tmp 237) et_sym rfl w.heap.size rfl HOW.out rfl HRX.out rfl HONE.out HBY.out HB63.out HBAS.out ?_; intro v4 wt own4 gr4 at4; have HBt : Hid (Below w.heap.size w wt) := Lib.hid (grow_bel (bel_then HBQ.out (bel1 _ _)) HOW.out gr4); have HOt := Lib.hid own4; have HGR := Lib.hid (HRS.out.growA gr4); have HSt := Lib.hid HGR.out.1; obtain ⟨pa, pc, rfl, rd4⟩ := RdC.own own4; clear own4 gr4 at4 rd4 c0; clear _f ft2) | (have _f := ft3; refine store1_sep (v := .slice pa (m + 1) pc) rfl 38 (.tmp 239) (.tmp 238) rfl HSt.out 0 rfl rfl rfl rfl (by kernel_rfl) rfl ?_; intro wu S' k' s'; have Swu := Lib.hid S'; have Kwu := Lib.hid k'; clear S' k' s'; clear _f ft3))
                go_roundg (go - 1)
                case measure => have h1 := HG.out; have h2 := HIE.out; have h3 := HDL.out; omega
                case rel => exact ⟨m + 1, k, _, _, nms, by go_num, by have h1 := HG.out; have h2 := HIE.out; have h3 := HDL.out; omega, HD.out.next HUU.out HMZ.out HIE.out HDL.out HD.out.kw HD.out.nd HD.out.nl Swu.out (row_on HOt.out (HSt.out.at 0 rfl) (by decide) Kwu.out) (row_on HGR.out.2 (HSt.out.at 0 rfl) (by decide) Kwu.out) (set_bel HBt.out HRS.out.b3 Kwu.out)⟩
              · have q29 : ¬ (q : Int) < 29 := by have := hki.2 hkw; omega
                have HUU : Hid ((gets (Sc.fresh l) m).get = ⟨l, k, ⟨25, j, 0, q, []⟩, nms, 0, 0⟩) := Lib.hid (by
                  rw [HU.out, HRN0.out]
                  rcases HNR.out with ⟨_, _, h3⟩ | ⟨h1, _⟩ | ⟨_, h1, _⟩
                  · rw [h3, HINS.out, if_neg hkw, hq]
                  · omega
                  · exact (h1 hin).elim)
                clear hin hq hqlt hki hkw
                have fq : True := trivial
                have fq2 : True := trivial
                have ft1 : True := trivial
                have ft2 : True := trivial
                have ft3 : True := trivial
                go_wp2_with (first | (have _f := fq; refine store1_sep (v := .int .i64 25) rfl 3 (.tmp 142) (.const (.int .i64 25)) rfl HS3.out 0 rfl rfl rfl rfl (by kernel_rfl) rfl ?_; intro w5 S' k' s'; have Sw5 := Lib.hid S'; have Kw5 := Lib.hid k'; clear S' k' s'; clear _f fq) | (have _f := fq2; refine store1_sep (v := .int .i64 q) rfl 3 (.tmp 143) (.tmp 141) rfl Sw5.out 0 rfl rfl rfl rfl (by kernel_rfl) rfl ?_; intro w6 S' k' s'; have Sw6 := Lib.hid S'; have Kw6 := Lib.hid k'; clear S' k' s'; have HB6 := Lib.hid (set_bel (set_bel HB3.out HG1.out Kw5.out) HG1.out Kw6.out); have HRQ := Lib.hid (HD.out.rs.bel HB6.out); have HBQ := Lib.hid (bel_then HD.out.bel HB6.out); have HRS := Lib.hid (HRQ.out.bel (bel1 w6 (.cells #[.int .i64 25, .int .i64 j, .int .i32 0, .int .i64 q, .string ⟨#[]⟩] 30))); have HOW : Hid ((w6.alloc (.cells #[.int .i64 25, .int .i64 j, .int .i32 0, .int .i64 q, .string ⟨#[]⟩] 30)).ownsRow w.heap.size 30 5 (.slice ap m ac) m (symsC ((List.range m).map fun j => (gets (newS l) j).sym))) := Lib.hid (by have := HRS.out.a; rw [List.length_map, List.length_range] at this; exact this); have HRX := Lib.hid (rd_five w6 #[.int .i64 25, .int .i64 j, .int .i32 0, .int .i64 q, .string ⟨#[]⟩] 30); have HONE : Hid (∀ u ∈ (#[.int .i64 25, .int .i64 j, .int .i32 0, .int .i64 q, .string ⟨#[]⟩] : Array Value).toList, u.oneCell' = true) := Lib.hid (by intro u hu; simp at hu; rcases hu with rfl | rfl | rfl | rfl | rfl <;> rfl); have HBAS := Lib.hid HRS.out.base; have c0 : w6.cell? ⟨g3, 0, none⟩ = some (.slice ap m ac) := ((HRQ.out.sep.at 0 rfl).cell 0).trans rfl; clear _f fq2) | (have _f := ft1; refine load_sep (cs := #[.int .i64 25, .int .i64 j, .int .i32 0, .int .i64 q, .string ⟨#[]⟩]) rfl 30 (.tmp 7) rfl Sw6.out 0 rfl rfl Try.underlying30 rfl (by kernel_rfl) ?_; clear _f ft1) | (have _f := ft2; at_builtin; refine append_at rfl (.tmp 235) (.tmp 237) et_sym rfl w.heap.size rfl HOW.out rfl HRX.out rfl HONE.out HBY.out HB63.out HBAS.out ?_; intro v4 wt own4 gr4 at4; have HBt : Hid (Below w.heap.size w wt) := Lib.hid (grow_bel (bel_then HBQ.out (bel1 _ _)) HOW.out gr4); have HOt := Lib.hid own4; have HGR := Lib.hid (HRS.out.growA gr4); have HSt := Lib.hid HGR.out.1; obtain ⟨pa, pc, rfl, rd4⟩ := RdC.own own4; clear own4 gr4 at4 rd4 c0; clear _f ft2) | (have _f := ft3; refine store1_sep (v := .slice pa (m + 1) pc) rfl 38 (.tmp 239) (.tmp 238) rfl HSt.out 0 rfl rfl rfl rfl (by kernel_rfl) rfl ?_; intro wu S' k' s'; have Swu := Lib.hid S'; have Kwu := Lib.hid k'; clear S' k' s'; clear _f ft3))
                go_roundg (go - 1)
                case measure => have h1 := HG.out; have h2 := HIE.out; have h3 := HDL.out; omega
                case rel => exact ⟨m + 1, k, _, _, nms, by go_num, by have h1 := HG.out; have h2 := HIE.out; have h3 := HDL.out; omega, HD.out.next HUU.out (show (25 : Int) ≠ 0 by decide) HIE.out HDL.out HD.out.kw HD.out.nd HD.out.nl Swu.out (row_on HOt.out (HSt.out.at 0 rfl) (by decide) Kwu.out) (row_on HGR.out.2 (HSt.out.at 0 rfl) (by decide) Kwu.out) (set_bel HBt.out HRS.out.b3 Kwu.out)⟩
            · rw [if_neg hin] at hid
              subst hid
              by_cases h700 : 700 ≤ nms.length
              · have h700' : (700 : Int) ≤ nms.length := by omega
                have HUE : Hid ((gets (Sc.fresh l) m).get = ⟨l, k, Sym.at j, nms, 62, j⟩) := Lib.hid (by
                  rw [HU.out, HRN0.out]
                  rcases HNR.out with ⟨_, h2, _⟩ | ⟨h1, _⟩ | ⟨_, _, _, h3⟩
                  · rcases h2 with h2 | h2
                    · exact (hin h2).elim
                    · omega
                  · omega
                  · exact h3)
                clear h700 hin
                go_wp2_with (first | (have _f := fe1; refine store1_sep (v := .int .i64 62) rfl 3 (.tmp 124) (.const (.int .i64 62)) rfl HS3.out 1 rfl rfl rfl rfl (by kernel_rfl) rfl ?_; intro wa S' k' s'; have Swa := Lib.hid S'; have Kwa := Lib.hid k'; clear S' k' s'; clear _f fe1) | (have _f := fe2; refine store1_sep (v := .int .i64 j) rfl 3 (.tmp 125) (.tmp 123) rfl Swa.out 1 rfl rfl rfl rfl (by kernel_rfl) rfl ?_; intro wb S' k' s'; have Swb := Lib.hid S'; have Kwb := Lib.hid k'; clear S' k' s'; clear _f fe2) | (have _f := fe3; refine load_sep (cs := #[.slice ap m ac, .slice np nms.length nc, .int .i64 62, .int .i64 j]) rfl 42 (.tmp 3) rfl Swb.out 1 rfl rfl Try.underlying42 rfl (by kernel_rfl) ?_; clear _f fe3) | (have _f := fe4; refine store_sep (cells := #[.slice ap m ac, .slice np nms.length nc, .int .i64 62, .int .i64 j]) rfl 42 (.tmp 2) (.tmp 126) rfl Swb.out 2 rfl rfl rfl (by kernel_rfl) rfl rfl ?_; intro wc S' k' s'; have Swc := Lib.hid S'; have Kwc := Lib.hid k'; clear S' k' s'; refine wpList_nil ?_; refine ‹∀ (a : Act) (w : World), Code.wp Try.prog Code.ret _ a w → _› _ _ ?_; refine wp_ret ?_; change bodyPost Try.prog Try.f18 (ScanRes l w) .ret _ _; exact bodyPost_ret (res_cell rfl rfl (Swc.out.at 2 rfl) Try.underlying42 rfl (by kernel_rfl)) rfl (HD.out.fail HUE.out rfl rfl rfl (show (62 : Int) ≠ 0 by decide) HB3.out (((Kwa.out.trans Kwb.out).mono (fun _ _ h => .inl h)).trans (Kwc.out.mono (fun _ _ h => .inr h))))))
              · have h700' : (nms.length : Int) < 700 := by omega
                have l29 : ¬ (nms.length : Int) < 29 := by omega
                have HINS : Hid (ins nms x = nms ++ [x]) := Lib.hid (by unfold ins; rw [if_neg hin])
                have HUU : Hid ((gets (Sc.fresh l) m).get = ⟨l, k, ⟨25, j, 0, (nms.length : Int), []⟩, nms ++ [x], 0, 0⟩) := Lib.hid (by
                  rw [HU.out, HRN0.out]
                  rcases HNR.out with ⟨_, _, h3⟩ | ⟨h1, _⟩ | ⟨_, _, h1, _⟩
                  · rw [h3, HINS.out, idx_app hin, if_neg (fun hk => by obtain ⟨r, hr⟩ := HD.out.kw; exact hin (by rw [hr]; exact List.mem_append_left _ hk))]
                  · omega
                  · omega)
                have HND2 : Hid ((nms ++ [x]).Nodup) := Lib.hid (by rw [← HINS.out]; exact nodup_ins HD.out.nd x)
                have HKW2 : Hid (Kw (nms ++ [x])) := Lib.hid (by rw [← HINS.out]; exact kw_ins HD.out.kw x)
                have HNL2 : Hid ((nms ++ [x]).length ≤ 700) := Lib.hid (by rw [List.length_append, List.length_singleton]; omega)
                have HDL := Lib.hid HKL.out.2
                have HIE := Lib.hid (show i < k by have := HIJ.out; have := HKL1.out; omega)
                have HSX := Lib.hid (HS3.out.other (.cells #[.string xb] 9))
                have HRSN := Lib.hid (HRQ3.out.bel (bel1 wr (.cells #[.string xb] 9)))
                have HRdN := Lib.hid (rd_atC (xs := [.string xb]) (n := 1) (At.new wr #[.string xb] 9) rfl (by unfold maxLen; omega))
                have HN16 := Lib.hid (show (nms.length + 1) * 16 ≤ 140737488355328 by omega)
                have HN63 := Lib.hid (show nms.length + 1 ≤ 140737488355328 by omega)
                have HNON := Lib.hid (show ∀ u ∈ [Value.string xb], u.oneCell' = true by intro u hu; simp at hu; subst hu; rfl)
                have HNBS := Lib.hid HRSN.out.base
                have HAX : Hid ((Value.slice ap m ac).ownBlock ≠ some w1.heap.size) := Lib.hid (fun e => by have h1 := (HD.out.rs.a.lt _ e).2; have h2 := HG1.out; omega)
                clear h700 hin
                have fn1 : True := trivial
                have fn2 : True := trivial
                have fq : True := trivial
                have fq2 : True := trivial
                have ft1 : True := trivial
                have ft2 : True := trivial
                have ft3 : True := trivial
                go_wp2_with (first | (have _f := fn1; at_builtin; refine append_at rfl (.tmp 131) (.tmp 133) et_str rfl w.heap.size rfl HRSN.out.n rfl HRdN.out rfl HNON.out HN16.out HN63.out HNBS.out ?_; intro v5 w5 own5 gr5 at5; have HB5 : Hid (Below w.heap.size w w5) := Lib.hid (grow_bel (bel_then HWW.out (bel1 _ _)) HRSN.out.n gr5); have HO5 := Lib.hid own5; have HGN2 := Lib.hid (HRSN.out.growN gr5); have HS5 := Lib.hid (sep_grow HSX.out HRSN.out.n gr5 (ty3 _ _ _ _ _ _)); obtain ⟨pn, cnn, rfl, rd5⟩ := RdC.own own5; clear own5 gr5 at5 rd5 cn; clear _f fn1) | (have _f := fn2; refine store1_sep (v := .slice pn (nms.length + 1) cnn) rfl 40 (.tmp 135) (.tmp 134) rfl HS5.out 1 rfl rfl rfl rfl (by kernel_rfl) rfl ?_; intro w6 S' k' s'; have Sw6 := Lib.hid S'; have Kw6 := Lib.hid k'; clear S' k' s'; clear _f fn2) | (have _f := fq; refine store1_sep (v := .int .i64 25) rfl 3 (.tmp 142) (.const (.int .i64 25)) rfl Sw6.out 0 rfl rfl rfl rfl (by kernel_rfl) rfl ?_; intro w7 S' k' s'; have Sw7 := Lib.hid S'; have Kw7 := Lib.hid k'; clear S' k' s'; clear _f fq) | (have _f := fq2; refine store1_sep (v := .int .i64 nms.length) rfl 3 (.tmp 143) (.tmp 141) rfl Sw7.out 0 rfl rfl rfl rfl (by kernel_rfl) rfl ?_; intro w8 S' k' s'; have Sw8 := Lib.hid S'; have Kw8 := Lib.hid k'; clear S' k' s'; have HR6 := Lib.hid (show RS w.heap.size w6 g2 g3 (.slice ap m ac) (.slice pn (nms.length + 1) cnn) ((List.range m).map fun j => (gets (newS l) j).sym) (nms ++ [x]) from ⟨Sw6.out.drop1, HRSN.out.b2, HRSN.out.b3, row_on HGN2.out.2 (HS5.out.at 1 rfl) (by decide) Kw6.out, by have h := row_on HO5.out (HS5.out.at 1 rfl) (by decide) Kw6.out; rw [List.length_append, List.length_singleton, List.map_append, List.map_cons, List.map_nil, HXB.out]; exact h⟩); have HNX : Hid ((Value.slice pn (nms.length + 1) cnn).ownBlock ≠ some w1.heap.size) := Lib.hid (ownsRow_type5 HR6.out.n (Sw6.out.at 0 rfl) (by decide)); have HRQ := Lib.hid ((HR6.out.ke Kw7.out (Ne.symm (Sw6.out.ne 0 1 (by decide) rfl rfl)) (Ne.symm (Sw6.out.ne 0 2 (by decide) rfl rfl)) HAX.out HNX.out).ke Kw8.out (Ne.symm (Sw6.out.ne 0 1 (by decide) rfl rfl)) (Ne.symm (Sw6.out.ne 0 2 (by decide) rfl rfl)) HAX.out HNX.out); have HBQ := Lib.hid (set_bel (set_bel (set_bel HB5.out HRSN.out.b3 Kw6.out) HGW.out Kw7.out) HGW.out Kw8.out); have HRS := Lib.hid (HRQ.out.bel (bel1 w8 (.cells #[.int .i64 25, .int .i64 j, .int .i32 0, .int .i64 nms.length, .string ⟨#[]⟩] 30))); have HOW : Hid ((w8.alloc (.cells #[.int .i64 25, .int .i64 j, .int .i32 0, .int .i64 nms.length, .string ⟨#[]⟩] 30)).ownsRow w.heap.size 30 5 (.slice ap m ac) m (symsC ((List.range m).map fun j => (gets (newS l) j).sym))) := Lib.hid (by have := HRS.out.a; rw [List.length_map, List.length_range] at this; exact this); have HRX := Lib.hid (rd_five w8 #[.int .i64 25, .int .i64 j, .int .i32 0, .int .i64 nms.length, .string ⟨#[]⟩] 30); have HONE : Hid (∀ u ∈ (#[.int .i64 25, .int .i64 j, .int .i32 0, .int .i64 nms.length, .string ⟨#[]⟩] : Array Value).toList, u.oneCell' = true) := Lib.hid (by intro u hu; simp at hu; rcases hu with rfl | rfl | rfl | rfl | rfl <;> rfl); have HBAS := Lib.hid HRS.out.base; have c0 : w8.cell? ⟨g3, 0, none⟩ = some (.slice ap m ac) := ((HRQ.out.sep.at 0 rfl).cell 0).trans rfl; clear _f fq2) | (have _f := ft1; refine load_sep (cs := #[.int .i64 25, .int .i64 j, .int .i32 0, .int .i64 nms.length, .string ⟨#[]⟩]) rfl 30 (.tmp 7) rfl Sw8.out 0 rfl rfl Try.underlying30 rfl (by kernel_rfl) ?_; clear _f ft1) | (have _f := ft2; at_builtin; refine append_at rfl (.tmp 235) (.tmp 237) et_sym rfl w.heap.size rfl HOW.out rfl HRX.out rfl HONE.out HBY.out HB63.out HBAS.out ?_; intro v4 wt own4 gr4 at4; have HBt : Hid (Below w.heap.size w wt) := Lib.hid (grow_bel (bel_then HBQ.out (bel1 _ _)) HOW.out gr4); have HOt := Lib.hid own4; have HGR := Lib.hid (HRS.out.growA gr4); have HSt := Lib.hid HGR.out.1; obtain ⟨pa, pc, rfl, rd4⟩ := RdC.own own4; clear own4 gr4 at4 rd4 c0; clear _f ft2) | (have _f := ft3; refine store1_sep (v := .slice pa (m + 1) pc) rfl 38 (.tmp 239) (.tmp 238) rfl HSt.out 0 rfl rfl rfl rfl (by kernel_rfl) rfl ?_; intro wu S' k' s'; have Swu := Lib.hid S'; have Kwu := Lib.hid k'; clear S' k' s'; clear _f ft3))
                go_roundg (go - 1)
                case measure => have h1 := HG.out; have h2 := HIE.out; have h3 := HDL.out; omega
                case rel => exact ⟨m + 1, k, _, _, nms ++ [x], by go_num, by have h1 := HG.out; have h2 := HIE.out; have h3 := HDL.out; omega, HD.out.next HUU.out (show (25 : Int) ≠ 0 by decide) HIE.out HDL.out HKW2.out HND2.out HNL2.out Swu.out (row_on HOt.out (HSt.out.at 0 rfl) (by decide) Kwu.out) (row_on HGR.out.2 (HSt.out.at 0 rfl) (by decide) Kwu.out) (set_bel HBt.out HRS.out.b3 Kwu.out)⟩
    · have hy := run_yes (p := ldB) (by rfl) (hv2.symm ▸ hst)
      have hlt := hy.2
      have HYN := Lib.hid (hy.1.symm.trans hrn)
      have HLT := Lib.hid hlt
      have HKL2 := Lib.hid (show k + 1 ≤ K by have := run_le (p := ldB) (s := l) (i := k + 1) (by omega); rw [HYN.out] at this; omega)
      cases hl2 : letterB v2
      · have hd2 : digitB v2 = true := by unfold ldB at hst; rw [hl2] at hst; exact hst
        have HL2 := Lib.hid hl2
        have HD2 := Lib.hid hd2
        clear hjk hkK hgk hrn hv2 hst hy hlt hl2 hd2
        go_wp2_with (first | (refine HRAT.out.mono ?_; rintro e w1 ⟨rfl, rfl⟩) | (refine (rletter_is v2 false HL2.out _).mono ?_; rintro e w1 ⟨rfl, rfl⟩) | (refine (rdigit_is v2 true HD2.out _).mono ?_; rintro e w1 ⟨rfl, rfl⟩))
        go_roundg (gk - 1)
        case measure => have := HGK.out; have := HLT.out; omega
        case rel => exact ⟨k + 1, by go_num, by have := HJK.out; omega, HKL2.out, by have := HGK.out; omega, HYN.out, rfl⟩
      · have HL2 := Lib.hid hl2
        clear hjk hkK hgk hrn hv2 hst hy hlt hl2
        go_wp2_with (first | (refine HRAT.out.mono ?_; rintro e w1 ⟨rfl, rfl⟩) | (refine (rletter_is v2 true HL2.out _).mono ?_; rintro e w1 ⟨rfl, rfl⟩))
        go_roundg (gk - 1)
        case measure => have := HGK.out; have := HLT.out; omega
        case rel => exact ⟨k + 1, by go_num, by have := HJK.out; omega, HKL2.out, by have := HGK.out; omega, HYN.out, rfl⟩

end Go.Proofs.Ytdgiijidgjagbaa
