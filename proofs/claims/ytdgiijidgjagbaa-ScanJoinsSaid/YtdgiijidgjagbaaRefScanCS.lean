/- A branch of a round of the reference's Scan. Printed by bin/gen_refscan2.py. -/
import Derived.Test.YtdgiijidgjagbaaRefScanB
namespace Go.Proofs.Ytdgiijidgjagbaa
set_option linter.unusedVariables false
set_option linter.unusedSimpArgs false
open Go.RowKit

set_option maxRecDepth 1000000 in
set_option maxHeartbeats 16000000 in
theorem scan_S {w wo : World} {a : Option Addr} {c : Nat} {l : List Int} (h : RdI .u8 w a c l) (hl : l.length ≤ 65535) {g2 g3 m i : Nat} {ap np : Option Addr} {ac nc go : Nat} {nms : List (List UInt8)} (hrd : Rd l w wo g2 g3 m i (.slice ap m ac) (.slice np nms.length nc) nms) (hgk : l.length - i ≤ go)
    {j : Nat} (hb : blank l i = (true, j)) (hij : i ≤ j) (hjl : j < l.length) (he : (gets (Sc.fresh l) m).get = (stand l j nms).read) (c1 : letterB (l.getD j 0) = false) (c2 : digitB (l.getD j 0) = false) (c3 : l.getD j 0 ≠ 34)
    {s19 s20 s21 s22 s23 s24 s25 u5 u6 u7 u8 u9 u10 u11 u12 u13 u14 u15 u16 u17 u18 u29 u30 u31 u32 u33 u34 u35 u36 u37 u38 u39 u40 u41 u42 u43 u44 u45 u46 u47 u48 u49 u50 u51 u52 u53 u54 u55 u56 u57 u58 u59 u60 u61 u62 u63 u64 u65 u66 u67 u68 u69 u70 u71 u72 u73 u74 u75 u76 u77 u78 u79 u80 u81 u82 u83 u84 u85 u86 u87 u88 u89 u90 u91 u92 u93 u94 u95 u96 u97 u98 u99 u100 u101 u102 u103 u104 u105 u106 u107 u108 u109 u110 u111 u112 u113 u114 u115 u116 u117 u118 u119 u120 u121 u122 u123 u124 u125 u126 u127 u128 u129 u130 u131 u132 u133 u134 u135 u136 u137 u138 u139 u140 u141 u142 u143 u144 u145 u146 u147 u148 u149 u150 u151 u152 u153 u154 u155 u156 u157 u158 u159 u160 u161 u162 u163 u164 u165 u166 u167 u168 u169 u170 u171 u172 u173 u174 u175 u176 u177 u178 u179 u180 u181 u182 u183 u184 u185 u186 u187 u188 u189 u190 u191 u192 u193 u194 u195 u196 u197 u198 u199 u200 u201 u202 u203 u204 u205 u206 u207 u208 u209 u210 u211 u212 u213 u214 u215 u216 u217 u218 u219 u220 u221 u222 u223 u224 u225 u226 u227 u228 u229 u230 u231 u232 u233 u234 u235 u236 u237 u238 u239 : Value} {J : Nat → Act → World → Prop} {K : Act → World → Prop} (hJ : ∀ k a' w', ScanI l w g2 g3 (.slice a l.length c) s19 s20 s21 s22 s23 s24 s25 k a' w' → J k a' w') (hK : ∀ a' w', Handed J go a' w' → K a' w') :
    Code.wp Try.prog scanBody (Exit.then K (Exit.inBlock 0 (bodyPost Try.prog Try.f18 (ScanRes l w)))) ⟨#[.slice a l.length c, undef, .pointer (some ⟨g2, 0, none⟩), .pointer (some ⟨g3, 0, none⟩), .int .i64 i, u5, u6, u7, u8, u9, u10, u11, u12, u13, u14, u15, u16, u17, u18, s19, s20, s21, s22, s23, s24, s25, undef, undef, undef, u29, u30, u31, u32, u33, u34, u35, u36, u37, u38, u39, u40, u41, u42, u43, u44, u45, u46, u47, u48, u49, u50, u51, u52, u53, u54, u55, u56, u57, u58, u59, u60, u61, u62, u63, u64, u65, u66, u67, u68, u69, u70, u71, u72, u73, u74, u75, u76, u77, u78, u79, u80, u81, u82, u83, u84, u85, u86, u87, u88, u89, u90, u91, u92, u93, u94, u95, u96, u97, u98, u99, u100, u101, u102, u103, u104, u105, u106, u107, u108, u109, u110, u111, u112, u113, u114, u115, u116, u117, u118, u119, u120, u121, u122, u123, u124, u125, u126, u127, u128, u129, u130, u131, u132, u133, u134, u135, u136, u137, u138, u139, u140, u141, u142, u143, u144, u145, u146, u147, u148, u149, u150, u151, u152, u153, u154, u155, u156, u157, u158, u159, u160, u161, u162, u163, u164, u165, u166, u167, u168, u169, u170, u171, u172, u173, u174, u175, u176, u177, u178, u179, u180, u181, u182, u183, u184, u185, u186, u187, u188, u189, u190, u191, u192, u193, u194, u195, u196, u197, u198, u199, u200, u201, u202, u203, u204, u205, u206, u207, u208, u209, u210, u211, u212, u213, u214, u215, u216, u217, u218, u219, u220, u221, u222, u223, u224, u225, u226, u227, u228, u229, u230, u231, u232, u233, u234, u235, u236, u237, u238, u239], []⟩ wo := by
  have HR := Lib.hid (fun (w' : World) (k : Below w.heap.size w w') => h.below k (Nat.le_refl _))
  have HC := Lib.hid (rd_cell h)
  have HL := Lib.hid hl
  have n0 : (0 : Int) ≤ l.length := by omega
  have n2 : (l.length : Int) ≤ 65535 := by omega
  have HD := Lib.hid hrd
  have HG := Lib.hid hgk
  have HI := Lib.hid hrd.le
  have HRR := Lib.hid (HR.out wo hrd.bel)
  have q1 : (0 : Int) ≤ i := by omega
  have q2 : (i : Int) ≤ 65535 := by have := hrd.le; omega
  have q3 : m ≤ 65535 := by have := hrd.le; have := hrd.mi; omega
  have q4 := hrd.nl
  have hsrc := hrd.fine.src
  have herr := hrd.fine.err
  have HBY := Lib.hid (show (m + 1) * 48 ≤ 140737488355328 by omega)
  have HB63 := Lib.hid (show m + 1 ≤ 140737488355328 by omega)
  clear h hl hrd hgk
  have fb : True := trivial
  have fe1 : True := trivial
  have fe2 : True := trivial
  have fe3 : True := trivial
  have fe4 : True := trivial
  conv => arg 2; whnf
  have HBL := Lib.hid hb
  have HU := Lib.hid he
  obtain ⟨b, o, rfl, hc⟩ := HC.out (by omega)
  obtain ⟨v, hv⟩ : ∃ v, l.getD j 0 = v := ⟨_, rfl⟩
  have HCJ := Lib.hid (fun (w' : World) (k : Below w.heap.size w w') => hc w' k j hjl)
  rw [hv] at HCJ
  have HCC := Lib.hid hc
  have HV := Lib.hid hv
  have HIJ := Lib.hid hij
  have HJL := Lib.hid hjl
  have j0 : (0 : Int) ≤ j := by omega
  have j1 : (j : Int) ≤ 65535 := by omega
  have j3 : (j : Int) < l.length := by omega
  clear hb he hsrc herr hc hv hij hjl
  have fx1 : True := trivial
  have fx2 : True := trivial
  have fl : True := trivial
  have fd : True := trivial
  have HLV : Hid (letterB v = false) := Lib.hid (HV.out ▸ c1)
  have HDV : Hid (digitB v = false) := Lib.hid (HV.out ▸ c2)
  have h34 : v ≠ 34 := HV.out ▸ c3
  clear c1 c2 c3
  have g34 : (v == 34) = false := by simpa using h34
  have HSR := Lib.hid (read_sign (S := l) (U := nms) HJL.out (by rw [HV.out]; exact HLV.out) (by rw [HV.out]; exact HDV.out) (by rw [HV.out]; exact h34))
  clear h34
  cases hs : signN (l.getD j 0) (decide (l.getD (j + 1) 0 = 61)) with
  | none =>
    have HSN := Lib.hid hs
    have HUU := Lib.hid (HU.out.trans (HSR.out.trans (sign_read.trans (by rw [hs]))))
    clear hs
    have fs : True := trivial
    go_wp2_with (first | (have _f := fb; refine (blank_t HRR.out HL.out HI.out HBL.out).mono ?_; rintro e w1 ⟨rfl, hb⟩; have HB1 := Lib.hid hb; have HS1 := Lib.hid (HD.out.rs.sep.bel hb); clear hb; clear _f fb) | (have _f := fx1; refine alloc_sep rfl 30 rfl HS1.out (z := .agg #[.int .i64 0, .int .i64 0, .int .i32 0, .int .i64 0, .string ⟨#[]⟩]) (cs := #[.int .i64 0, .int .i64 0, .int .i32 0, .int .i64 0, .string ⟨#[]⟩]) (by kernel_rfl) rfl ?_; intro w2 S' b' s'; have HS2 := Lib.hid S'; have HB2 := Lib.hid b'; clear S' b' s'; clear _f fx1) | (have _f := fx2; refine store_sep (cells := #[.int .i64 0, .int .i64 j, .int .i32 0, .int .i64 0, .string ⟨#[]⟩]) rfl 30 (.tmp 7) (.tmp 43) rfl HS2.out 0 rfl rfl rfl (by kernel_rfl) rfl rfl ?_; intro w3 S' k' s'; have HS3 := Lib.hid S'; have HB3 := Lib.hid (bel_then HB1.out (((Ke.below (· = w1.heap.size) HB2.out).trans k').toBelow (fun i hi e => absurd e (Nat.ne_of_lt hi)))); clear S' k' s'; have HWW := Lib.hid (bel_then HD.out.bel HB3.out); have HRD3 := Lib.hid (HR.out w3 HWW.out); have HG1 := Lib.hid HB1.out.size; have HGW := Lib.hid (Nat.le_trans HD.out.bel.size HB1.out.size); have hbj : w3.cell? ⟨b, o + j, none⟩ = some (.int .u8 v) := HCJ.out w3 HWW.out; clear _f fx2) | (have _f := fl; refine (rletter_is v false HLV.out _).mono ?_; rintro e w' ⟨rfl, rfl⟩; clear _f fl) | (have _f := fd; refine (rdigit_is v false HDV.out _).mono ?_; rintro e w' ⟨rfl, rfl⟩; clear _f fd) | (have _f := fs; refine (sign_no HRD3.out HL.out HJL.out HSN.out).mono ?_; rintro e w4 ⟨⟨x, rfl⟩, hb⟩; have HB4 := Lib.hid (bel_then HB3.out hb); have HS4 := Lib.hid (HS3.out.bel hb); clear hb; clear _f fs) | (have _f := fe1; refine store1_sep (v := .int .i64 1) rfl 3 (.tmp 64) (.const (.int .i64 1)) rfl HS4.out 1 rfl rfl rfl rfl (by kernel_rfl) rfl ?_; intro wa S' k' s'; have Swa := Lib.hid S'; have Kwa := Lib.hid k'; clear S' k' s'; clear _f fe1) | (have _f := fe2; refine store1_sep (v := .int .i64 j) rfl 3 (.tmp 65) (.tmp 63) rfl Swa.out 1 rfl rfl rfl rfl (by kernel_rfl) rfl ?_; intro wb S' k' s'; have Swb := Lib.hid S'; have Kwb := Lib.hid k'; clear S' k' s'; clear _f fe2) | (have _f := fe3; refine load_sep (cs := #[.slice ap m ac, .slice np nms.length nc, .int .i64 1, .int .i64 j]) rfl 42 (.tmp 3) rfl Swb.out 1 rfl rfl Try.underlying42 rfl (by kernel_rfl) ?_; clear _f fe3) | (have _f := fe4; refine store_sep (cells := #[.slice ap m ac, .slice np nms.length nc, .int .i64 1, .int .i64 j]) rfl 42 (.tmp 2) (.tmp 66) rfl Swb.out 2 rfl rfl rfl (by kernel_rfl) rfl rfl ?_; intro wc S' k' s'; have Swc := Lib.hid S'; have Kwc := Lib.hid k'; clear S' k' s'; refine wpList_nil ?_; refine ‹∀ (a : Act) (w : World), Code.wp Try.prog Code.ret _ a w → _› _ _ ?_; refine wp_ret ?_; change bodyPost Try.prog Try.f18 (ScanRes l w) .ret _ _; exact bodyPost_ret (res_cell rfl rfl (Swc.out.at 2 rfl) Try.underlying42 rfl (by kernel_rfl)) rfl (HD.out.fail HUU.out rfl rfl rfl (show (1 : Int) ≠ 0 by decide) HB4.out (((Kwa.out.trans Kwb.out).mono (fun _ _ h => .inl h)).trans (Kwc.out.mono (fun _ _ h => .inr h))))))
  | some md =>
    obtain ⟨mm, d⟩ := md
    have HSN := Lib.hid hs
    have hbd := signN_bd hs
    have HUU := Lib.hid (HU.out.trans (HSR.out.trans (sign_read.trans (by rw [hs]))))
    have hdl : j + d ≤ l.length := by
      have h1 : (stand l j nms).read.err = 0 := by rw [HSR.out, sign_read, hs]
      have h2 := (read_bd HD.out.kw HJL.out h1).2
      rw [HSR.out, sign_read, hs] at h2
      exact h2
    have HDL := Lib.hid hdl
    have HIE := Lib.hid (show i < j + d by have := HIJ.out; omega)
    have m0 : (mm == 0) = false := by have : mm ≠ 0 := by omega
                                      simpa using this
    have HMZ := Lib.hid (show mm ≠ 0 by omega)
    clear hs hbd hdl
    have fs : True := trivial
    have fq : True := trivial
    have ft1 : True := trivial
    have ft2 : True := trivial
    have ft3 : True := trivial
    go_wp2_with (first | (have _f := fb; refine (blank_t HRR.out HL.out HI.out HBL.out).mono ?_; rintro e w1 ⟨rfl, hb⟩; have HB1 := Lib.hid hb; have HS1 := Lib.hid (HD.out.rs.sep.bel hb); clear hb; clear _f fb) | (have _f := fx1; refine alloc_sep rfl 30 rfl HS1.out (z := .agg #[.int .i64 0, .int .i64 0, .int .i32 0, .int .i64 0, .string ⟨#[]⟩]) (cs := #[.int .i64 0, .int .i64 0, .int .i32 0, .int .i64 0, .string ⟨#[]⟩]) (by kernel_rfl) rfl ?_; intro w2 S' b' s'; have HS2 := Lib.hid S'; have HB2 := Lib.hid b'; clear S' b' s'; clear _f fx1) | (have _f := fx2; refine store_sep (cells := #[.int .i64 0, .int .i64 j, .int .i32 0, .int .i64 0, .string ⟨#[]⟩]) rfl 30 (.tmp 7) (.tmp 43) rfl HS2.out 0 rfl rfl rfl (by kernel_rfl) rfl rfl ?_; intro w3 S' k' s'; have HS3 := Lib.hid S'; have HB3 := Lib.hid (bel_then HB1.out (((Ke.below (· = w1.heap.size) HB2.out).trans k').toBelow (fun i hi e => absurd e (Nat.ne_of_lt hi)))); clear S' k' s'; have HWW := Lib.hid (bel_then HD.out.bel HB3.out); have HRD3 := Lib.hid (HR.out w3 HWW.out); have HG1 := Lib.hid HB1.out.size; have HGW := Lib.hid (Nat.le_trans HD.out.bel.size HB1.out.size); have hbj : w3.cell? ⟨b, o + j, none⟩ = some (.int .u8 v) := HCJ.out w3 HWW.out; clear _f fx2) | (have _f := fl; refine (rletter_is v false HLV.out _).mono ?_; rintro e w' ⟨rfl, rfl⟩; clear _f fl) | (have _f := fd; refine (rdigit_is v false HDV.out _).mono ?_; rintro e w' ⟨rfl, rfl⟩; clear _f fd) | (have _f := fs; refine (sign_yes HRD3.out HL.out HJL.out HSN.out).mono ?_; rintro e w4 ⟨rfl, hb⟩; have HB4 := Lib.hid (bel_then HB3.out hb); have HS4 := Lib.hid (HS3.out.bel hb); clear hb; clear _f fs) | (have _f := fq; refine store1_sep (v := .int .i64 mm) rfl 3 (.tmp 68) (.tmp 67) rfl HS4.out 0 rfl rfl rfl rfl (by kernel_rfl) rfl ?_; intro w5 S' k' s'; have Sw5 := Lib.hid S'; have Kw5 := Lib.hid k'; clear S' k' s'; have HB5 := Lib.hid (set_bel HB4.out HG1.out Kw5.out); have HRQ := Lib.hid (HD.out.rs.bel HB5.out); have HBQ := Lib.hid (bel_then HD.out.bel HB5.out); have HRS := Lib.hid (HRQ.out.bel (bel1 w5 (.cells #[.int .i64 mm, .int .i64 j, .int .i32 0, .int .i64 0, .string ⟨#[]⟩] 30))); have HOW : Hid ((w5.alloc (.cells #[.int .i64 mm, .int .i64 j, .int .i32 0, .int .i64 0, .string ⟨#[]⟩] 30)).ownsRow w.heap.size 30 5 (.slice ap m ac) m (symsC ((List.range m).map fun j => (gets (newS l) j).sym))) := Lib.hid (by have := HRS.out.a; rw [List.length_map, List.length_range] at this; exact this); have HRX := Lib.hid (rd_five w5 #[.int .i64 mm, .int .i64 j, .int .i32 0, .int .i64 0, .string ⟨#[]⟩] 30); have HONE : Hid (∀ u ∈ (#[.int .i64 mm, .int .i64 j, .int .i32 0, .int .i64 0, .string ⟨#[]⟩] : Array Value).toList, u.oneCell' = true) := Lib.hid (by intro u hu; simp at hu; rcases hu with rfl | rfl | rfl | rfl | rfl <;> rfl); have HBAS := Lib.hid HRS.out.base; have c0 : w5.cell? ⟨g3, 0, none⟩ = some (.slice ap m ac) := ((HRQ.out.sep.at 0 rfl).cell 0).trans rfl; clear _f fq) | (have _f := ft1; refine load_sep (cs := #[.int .i64 mm, .int .i64 j, .int .i32 0, .int .i64 0, .string ⟨#[]⟩]) rfl 30 (.tmp 7) rfl Sw5.out 0 rfl rfl Try.underlying30 rfl (by kernel_rfl) ?_; clear _f ft1) | (have _f := ft2; at_builtin; refine append_at rfl (.tmp 235) (.tmp 237) et_sym rfl w.heap.size rfl HOW.out rfl HRX.out rfl HONE.out HBY.out HB63.out HBAS.out ?_; intro v4 wt own4 gr4 at4; have HBt : Hid (Below w.heap.size w wt) := Lib.hid (grow_bel (bel_then HBQ.out (bel1 _ _)) HOW.out gr4); have HOt := Lib.hid own4; have HGR := Lib.hid (HRS.out.growA gr4); have HSt := Lib.hid HGR.out.1; obtain ⟨pa, pc, rfl, rd4⟩ := RdC.own own4; clear own4 gr4 at4 rd4 c0; clear _f ft2) | (have _f := ft3; refine store1_sep (v := .slice pa (m + 1) pc) rfl 38 (.tmp 239) (.tmp 238) rfl HSt.out 0 rfl rfl rfl rfl (by kernel_rfl) rfl ?_; intro wu S' k' s'; have Swu := Lib.hid S'; have Kwu := Lib.hid k'; clear S' k' s'; clear _f ft3))
    go_roundg (go - 1)
    case measure => have h1 := HG.out; have h2 := HIE.out; have h3 := HDL.out; omega
    case rel => exact ⟨m + 1, j + d, _, _, nms, by go_num, by have h1 := HG.out; have h2 := HIE.out; have h3 := HDL.out; omega, HD.out.next HUU.out HMZ.out HIE.out HDL.out HD.out.kw HD.out.nd HD.out.nl Swu.out (row_on HOt.out (HSt.out.at 0 rfl) (by decide) Kwu.out) (row_on HGR.out.2 (HSt.out.at 0 rfl) (by decide) Kwu.out) (set_bel HBt.out HRS.out.b3 Kwu.out)⟩

end Go.Proofs.Ytdgiijidgjagbaa
