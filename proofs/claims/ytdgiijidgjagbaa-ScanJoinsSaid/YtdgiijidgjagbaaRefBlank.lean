/- Contract: the reference's Blank. -/
import Derived.Test.YtdgiijidgjagbaaRefScanA
import Derived.Test.YtdgiijidgjagbaaScanKnown
namespace Go.Proofs.Ytdgiijidgjagbaa
set_option linter.unusedVariables false
set_option linter.unusedSimpArgs false
open Go.RowKit

def BlankIs (l : List Int) (i : Nat) (w : World) (e : Ending) (w' : World) : Prop :=
  e = .returned (.tuple #[.int .i64 (if (blank l i).1 then ((blank l i).2 : Int) else (l.length : Int)), .int .i64 (if (blank l i).1 then -1 else ((blank l i).2 : Int))]) ∧ Below w.heap.size w w'
theorem getD_mem {l : List Int} {i : Nat} (h : i < l.length) : l.getD i 0 ∈ l := by
  rw [List.getD_eq_getElem?_getD, List.getElem?_eq_getElem h]; exact List.getElem_mem h
theorem getD_bd {l : List Int} (h : ∀ x ∈ l, IntKind.min .u8 ≤ x ∧ x ≤ IntKind.max .u8) (i : Nat) : 0 ≤ l.getD i 0 ∧ l.getD i 0 < 256 := by
  rcases Nat.lt_or_ge i l.length with h1 | h1
  · exact bd_u8 (h _ (getD_mem h1))
  · rw [getD_end h1]; omega
theorem rd_cell {w : World} {a : Option Addr} {c : Nat} {l : List Int} (h : RdI .u8 w a c l) (hl : 0 < l.length) : ∃ b o, a = some ⟨b, o, none⟩ ∧ ∀ (w' : World), Below w.heap.size w w' → ∀ i, i < l.length → w'.cell? ⟨b, o + i, none⟩ = some (.int .u8 (l.getD i 0)) := by
  obtain ⟨b, o, h1, h2⟩ := h.cells
  obtain ⟨rfl, hb⟩ := h1 hl
  exact ⟨b, o, rfl, fun w' k i hi => (k.cell (p := ⟨b, o + i, none⟩) hb).trans (h2 i hi)⟩

set_option maxRecDepth 20000 in
set_option maxHeartbeats 8000000 in
theorem blank_walk {w : World} {a : Option Addr} {c : Nat} {l : List Int} (h : RdI .u8 w a c l) (hl : l.length ≤ 65535) (i0 : Nat) (hi0 : i0 ≤ l.length) :
    Calls Try.prog 36 #[.slice a l.length c, .int .i64 i0] w (BlankIs l i0 w) := by
  have HR := Lib.hid (fun (w' : World) (k : Below w.heap.size w w') => h.below k (Nat.le_refl _))
  have HL := Lib.hid hl
  have HC := Lib.hid (rd_cell h)
  have HI0 := Lib.hid hi0
  have n0 : (0 : Int) ≤ l.length := by omega
  have n1 : (l.length : Int) ≤ 65535 := by omega
  clear h hl hi0
  go_enter Try.func36, Try.ntmps36
  go_wp2
  go_loopg [1] l.length (fun gk iv wr => ∃ i : Nat, iv = .int .i64 i ∧ i ≤ l.length ∧ l.length - i ≤ gk ∧ blank l i = blank l i0 ∧ Below w.heap.size w wr)
  case atStart => exact ⟨i0, rfl, HI0.out, Nat.sub_le _ _, rfl, Below.refl _ _⟩
  case round =>
    obtain ⟨go, rfl⟩ : ∃ go, go = gk := ⟨_, rfl⟩
    obtain ⟨wo, rfl⟩ : ∃ wo, wo = wr := ⟨_, rfl⟩
    obtain ⟨i, rfl, hi, hgk, hb, hw⟩ := hrel
    have HB := Lib.hid hb
    have HW := Lib.hid hw
    have HG := Lib.hid hgk
    have HI := Lib.hid hi
    have HRR := Lib.hid (HR.out wo hw)
    have q1 : (0 : Int) ≤ i := by omega
    have q2 : (i : Int) ≤ 65535 := by omega
    by_cases hlt : i < l.length
    · have i3 : (i : Int) < l.length := by omega
      obtain ⟨b, o, rfl, hc⟩ := HC.out (by omega)
      obtain ⟨v, hv⟩ : ∃ v, v = l.getD i 0 := ⟨_, rfl⟩
      obtain ⟨v2, hv2⟩ : ∃ v2, v2 = l.getD (i + 1) 0 := ⟨_, rfl⟩
      have hb0 : wo.cell? ⟨b, o + i, none⟩ = some (.int .u8 v) := hv ▸ hc wo hw i hlt
      have HCC := Lib.hid hc
      have HV := Lib.hid hv
      have HV2 := Lib.hid hv2.symm
      have HLT := Lib.hid hlt
      have hbi := blank_in hlt
      rw [← hv] at hbi
      by_cases h32 : v ≤ 32
      · rw [if_pos h32] at hbi
        have HN := Lib.hid (hbi.symm.trans HB.out)
        clear hb hw hgk hv hbi hc hv2 hi
        go_wp2
        go_roundg (go - 1)
        case measure => have := HG.out; have := HLT.out; omega
        case rel => exact ⟨i + 1, by go_num, HLT.out, by have := HG.out; omega, HN.out, HW.out⟩
      · rw [if_neg h32] at hbi
        by_cases h40 : v = 40
        · by_cases h42 : v2 = 42
          · have ho : opens l i = true := by unfold opens; rw [← hv, ← hv2, h40, h42]; rfl
            have hlo := opens_lt ho
            rw [if_pos ho] at hbi
            have HN := Lib.hid (HB.out.symm.trans hbi)
            have HO := Lib.hid ho
            have HLO := Lib.hid hlo
            subst h40; subst h42
            clear hb hw hgk hv hbi hc hv2 hi hlo ho h32
            have f1 : True := trivial
            go_wp2_with (have _f := f1; refine (rat_is HRR.out (i + 1) ((i : Int) + 1) 42 (by go_num) HV2.out (by omega)).mono ?_; rintro e w1 ⟨rfl, rfl⟩; clear _f f1)
            go_loopg [1, 7] l.length (fun gj kv dv wq => ∃ k d : Nat, kv = .int .i64 k ∧ dv = .int .i64 d ∧ i ≤ k ∧ k ≤ l.length ∧ l.length - k ≤ gj ∧ d ≤ k ∧ ((k = i ∧ d = 0) ∨ (i + 2 ≤ k ∧ 1 ≤ d ∧ com l d k = com l 1 (i + 2))) ∧ Below w.heap.size w wq)
            case atStart => exact ⟨i, 0, rfl, rfl, Nat.le_refl _, HI.out, Nat.sub_le _ _, Nat.zero_le _, .inl ⟨rfl, rfl⟩, HW.out⟩
            case round =>
              obtain ⟨k, d, rfl, rfl, hik, hk, hgj, hdk, hcm, hwq⟩ := hrel
              have HCM := Lib.hid hcm
              have HWQ := Lib.hid hwq
              have HGJ := Lib.hid hgj
              have HIK := Lib.hid hik
              have HK := Lib.hid hk
              have HDK := Lib.hid hdk
              have HRR := Lib.hid (HR.out wr hwq)
              have r1 : (0 : Int) ≤ k := by omega
              have r2 : (k : Int) ≤ 65535 := by omega
              have r3 : (0 : Int) ≤ d := by omega
              have r4 : (d : Int) ≤ 65535 := by omega
              by_cases hkl : k < l.length
              · have k3 : (k : Int) < l.length := by omega
                have HKL := Lib.hid hkl
                obtain ⟨v3, hv3⟩ : ∃ v3, v3 = l.getD k 0 := ⟨_, rfl⟩
                obtain ⟨v4, hv4⟩ : ∃ v4, v4 = l.getD (k + 1) 0 := ⟨_, rfl⟩
                have hb1 : wr.cell? ⟨b, o + k, none⟩ = some (.int .u8 v3) := hv3 ▸ HCC.out wr hwq k hkl
                have HV3 := Lib.hid hv3.symm
                have HV4 := Lib.hid hv4.symm
                have hop : opens l k = (decide (v3 = 40) && decide (v4 = 42)) := by unfold opens; rw [← hv3, ← hv4]
                have hcl : closes l k = (decide (v3 = 42) && decide (v4 = 41)) := by unfold closes; rw [← hv3, ← hv4]
                have hci : 1 ≤ d → com l d k = if opens l k then com l (d + 1) (k + 2) else if closes l k then com l (d - 1) (k + 2) else com l d (k + 1) := fun h1 => by
                  obtain ⟨d', rfl⟩ : ∃ d', d = d' + 1 := ⟨d - 1, by omega⟩
                  exact com_in hkl
                have hst : k = i → opens l k = true := fun e => e ▸ HO.out
                have HST := Lib.hid hst
                have HOP := Lib.hid hop
                have HCL := Lib.hid hcl
                have HCI := Lib.hid hci
                by_cases a40 : v3 = 40
                · subst a40
                  by_cases a42 : v4 = 42
                  · subst a42
                    have ho2 : opens l k = true := by rw [HOP.out]; rfl
                    have HLO2 := Lib.hid (opens_lt ho2)
                    have HN2 : Hid (com l (d + 1) (k + 2) = com l 1 (i + 2)) := Lib.hid (by
                      rcases HCM.out with ⟨rfl, rfl⟩ | ⟨_, h1, h2⟩
                      · rfl
                      · rw [← h2, HCI.out h1, if_pos ho2])
                    clear ho2
                    clear hcm hwq hgj hik hk hdk hv3 hv4 hop hcl hci hst hkl hb0
                    have hd1 : ¬ (d : Int) + 1 = 0 := by omega
                    have f2 : True := trivial
                    go_wp2_with (have _f := f2; refine (rat_is HRR.out (k + 1) ((k : Int) + 1) 42 (by go_num) HV4.out (by omega)).mono ?_; rintro e w1 ⟨rfl, rfl⟩; clear _f f2)
                    go_roundg (gk - 1)
                    case measure => have := HGJ.out; have := HKL.out; omega
                    case rel => exact ⟨k + 2, d + 1, by go_num, by go_num, by have := HIK.out; omega, HLO2.out, by have := HGJ.out; omega, by have := HDK.out; omega, .inr ⟨by have := HIK.out; omega, by omega, HN2.out⟩, HWQ.out⟩
                  · have n42 : (v4 == 42) = false := by simpa using a42
                    have hno : opens l k = false := by rw [HOP.out]; simp [a42]
                    have hnc : closes l k = false := by rw [HCL.out]; simp
                    have hki : i + 2 ≤ k ∧ 1 ≤ d ∧ com l d k = com l 1 (i + 2) := HCM.out.resolve_left (fun h => by rw [HST.out h.1] at hno; cases hno)
                    have HN2 : Hid (com l d (k + 1) = com l 1 (i + 2)) := Lib.hid (by rw [← hki.2.2, HCI.out hki.2.1, hno, hnc]; rfl)
                    have HKI := Lib.hid hki
                    have hd1 : ¬ (d : Int) = 0 := by omega
                    clear hno hnc hki
                    clear hcm hwq hgj hik hk hdk hv3 hv4 hop hcl hci hst hkl hb0
                    have f2 : True := trivial
                    go_wp2_with (have _f := f2; refine (rat_is HRR.out (k + 1) ((k : Int) + 1) v4 (by go_num) HV4.out (by omega)).mono ?_; rintro e w1 ⟨rfl, rfl⟩; clear _f f2)
                    go_roundg (gk - 1)
                    case measure => have := HGJ.out; have := HKL.out; omega
                    case rel => exact ⟨k + 1, d, by go_num, by go_num, by have := HIK.out; omega, HKL.out, by have := HGJ.out; omega, by have := HDK.out; omega, .inr ⟨by have := HKI.out.1; omega, HKI.out.2.1, HN2.out⟩, HWQ.out⟩
                · have n40 : (v3 == 40) = false := by simpa using a40
                  by_cases b42 : v3 = 42
                  · subst b42
                    by_cases b41 : v4 = 41
                    · subst b41
                      have hno : opens l k = false := by rw [HOP.out]; rfl
                      have hcc : closes l k = true := by rw [HCL.out]; rfl
                      have HLO2 := Lib.hid (closes_lt hcc)
                      have hki : i + 2 ≤ k ∧ 1 ≤ d ∧ com l d k = com l 1 (i + 2) := HCM.out.resolve_left (fun h => by rw [HST.out h.1] at hno; cases hno)
                      have HN2 : Hid (com l (d - 1) (k + 2) = com l 1 (i + 2)) := Lib.hid (by rw [← hki.2.2, HCI.out hki.2.1, hno, hcc]; rfl)
                      have HKI := Lib.hid hki
                      have hd0 : 1 ≤ d := hki.2.1
                      clear hno hcc hki
                      clear hcm hwq hgj hik hk hdk hv3 hv4 hop hcl hci hst hkl hb0
                      have f2 : True := trivial
                      by_cases hd1 : d = 1
                      · subst hd1
                        have HRR2 : Hid (blank l (k + 2) = blank l i0) := Lib.hid (by
                          have h1 := HN.out
                          rw [← HN2.out, com_zero] at h1
                          exact h1.symm)
                        go_wp2_with (have _f := f2; refine (rat_is HRR.out (k + 1) ((k : Int) + 1) 41 (by go_num) HV4.out (by omega)).mono ?_; rintro e w1 ⟨rfl, rfl⟩; clear _f f2)
                        go_roundg (go - 1)
                        case measure => have := HG.out; have := HIK.out; have := HLT.out; omega
                        case rel => exact ⟨k + 2, by go_num, HLO2.out, by have := HG.out; have := HIK.out; have := HLO2.out; omega, HRR2.out, HWQ.out⟩
                      · have hd2 : ¬ (d : Int) - 1 = 0 := by omega
                        have hd3 : (1 : Int) ≤ d := by omega
                        go_wp2_with (have _f := f2; refine (rat_is HRR.out (k + 1) ((k : Int) + 1) 41 (by go_num) HV4.out (by omega)).mono ?_; rintro e w1 ⟨rfl, rfl⟩; clear _f f2)
                        go_roundg (gk - 1)
                        case measure => have := HGJ.out; have := HKL.out; omega
                        case rel => exact ⟨k + 2, d - 1, by go_num, by go_num, by have := HIK.out; omega, HLO2.out, by have := HGJ.out; omega, by have := HDK.out; omega, .inr ⟨by have := HIK.out; omega, by omega, HN2.out⟩, HWQ.out⟩
                    · have n41 : (v4 == 41) = false := by simpa using b41
                      have hno : opens l k = false := by rw [HOP.out]; simp
                      have hnc : closes l k = false := by rw [HCL.out]; simp [b41]
                      have hki : i + 2 ≤ k ∧ 1 ≤ d ∧ com l d k = com l 1 (i + 2) := HCM.out.resolve_left (fun h => by rw [HST.out h.1] at hno; cases hno)
                      have HN2 : Hid (com l d (k + 1) = com l 1 (i + 2)) := Lib.hid (by rw [← hki.2.2, HCI.out hki.2.1, hno, hnc]; rfl)
                      have HKI := Lib.hid hki
                      have hd1 : ¬ (d : Int) = 0 := by omega
                      clear hno hnc hki
                      clear hcm hwq hgj hik hk hdk hv3 hv4 hop hcl hci hst hkl hb0
                      have f2 : True := trivial
                      go_wp2_with (have _f := f2; refine (rat_is HRR.out (k + 1) ((k : Int) + 1) v4 (by go_num) HV4.out (by omega)).mono ?_; rintro e w1 ⟨rfl, rfl⟩; clear _f f2)
                      go_roundg (gk - 1)
                      case measure => have := HGJ.out; have := HKL.out; omega
                      case rel => exact ⟨k + 1, d, by go_num, by go_num, by have := HIK.out; omega, HKL.out, by have := HGJ.out; omega, by have := HDK.out; omega, .inr ⟨by have := HKI.out.1; omega, HKI.out.2.1, HN2.out⟩, HWQ.out⟩
                  · have m42 : (v3 == 42) = false := by simpa using b42
                    have hno : opens l k = false := by rw [HOP.out]; simp [a40]
                    have hnc : closes l k = false := by rw [HCL.out]; simp [b42]
                    have hki : i + 2 ≤ k ∧ 1 ≤ d ∧ com l d k = com l 1 (i + 2) := HCM.out.resolve_left (fun h => by rw [HST.out h.1] at hno; cases hno)
                    have HN2 : Hid (com l d (k + 1) = com l 1 (i + 2)) := Lib.hid (by rw [← hki.2.2, HCI.out hki.2.1, hno, hnc]; rfl)
                    have HKI := Lib.hid hki
                    have hd1 : ¬ (d : Int) = 0 := by omega
                    clear hno hnc hki
                    clear hcm hwq hgj hik hk hdk hv3 hv4 hop hcl hci hst hkl hb0
                    go_wp2
                    go_roundg (gk - 1)
                    case measure => have := HGJ.out; have := HKL.out; omega
                    case rel => exact ⟨k + 1, d, by go_num, by go_num, by have := HIK.out; omega, HKL.out, by have := HGJ.out; omega, by have := HDK.out; omega, .inr ⟨by have := HKI.out.1; omega, HKI.out.2.1, HN2.out⟩, HWQ.out⟩
              · have hkl' : (l.length : Int) ≤ k := by omega
                have hki : i + 2 ≤ k ∧ 1 ≤ d ∧ com l d k = com l 1 (i + 2) := HCM.out.resolve_left (fun h => by have := HLT.out; omega)
                have hd1 : (0 : Int) < d := by omega
                have HNN : Hid (com l 1 (i + 2) = none) := Lib.hid (by
                  obtain ⟨d', hd'⟩ : ∃ d', d = d' + 1 := ⟨d - 1, by omega⟩
                  rw [← hki.2.2, hd']; exact com_end (by omega))
                clear hcm hwq hgj hik hk hdk hkl hb0 hki
                go_wp2
                go_ret2
                have e := HN.out
                rw [HNN.out] at e
                exact ⟨by rw [e]; rfl, HWQ.out⟩
          · have n42 : (v2 == 42) = false := by simpa using h42
            subst h40
            have ho : opens l i = false := by unfold opens; rw [← hv, ← hv2]; simp [h42]
            rw [ho, if_neg (by decide)] at hbi
            have HN := Lib.hid (HB.out.symm.trans hbi)
            clear hb hw hgk hv hbi hc hv2 hi ho
            have f1 : True := trivial
            go_wp2_with (have _f := f1; refine (rat_is HRR.out (i + 1) ((i : Int) + 1) v2 (by go_num) HV2.out (by omega)).mono ?_; rintro e w1 ⟨rfl, rfl⟩; clear _f f1)
            go_ret2
            exact ⟨by rw [HN.out]; rfl, HW.out⟩
        · have n40 : (v == 40) = false := by simpa using h40
          have ho : opens l i = false := by unfold opens; rw [← hv, ← hv2]; simp [h40]
          rw [ho, if_neg (by decide)] at hbi
          have HN := Lib.hid (HB.out.symm.trans hbi)
          clear hb hw hgk hv hbi hc hv2 hi ho
          go_wp2
          go_ret2
          exact ⟨by rw [HN.out]; rfl, HW.out⟩
    · have i3 : (l.length : Int) ≤ i := by omega
      have HN := Lib.hid (HB.out.symm.trans (blank_end (by omega)))
      clear hb hw hgk hi
      go_wp2
      go_ret2
      exact ⟨by rw [HN.out]; rfl, HW.out⟩

    end Go.Proofs.Ytdgiijidgjagbaa
