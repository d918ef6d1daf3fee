/- Contract: the reference's Scan. -/
import Derived.Test.YtdgiijidgjagbaaRefScanCA
import Derived.Test.YtdgiijidgjagbaaRefScanCE
import Derived.Test.YtdgiijidgjagbaaRefScanCT
import Derived.Test.YtdgiijidgjagbaaRefScanCS
import Derived.Test.YtdgiijidgjagbaaRefScanCN
import Derived.Test.YtdgiijidgjagbaaRefScanCL
namespace Go.Proofs.Ytdgiijidgjagbaa
set_option linter.unusedVariables false
set_option linter.unusedSimpArgs false
open Go.RowKit

set_option maxRecDepth 100000 in
set_option maxHeartbeats 16000000 in
theorem scan_ref {w : World} {a : Option Addr} {c : Nat} {l : List Int} (h : RdI .u8 w a c l) (hl : l.length ≤ 65535) :
    Calls Try.prog 18 #[.slice a l.length c] w (ScanRes l w) := by
  have HR := Lib.hid (fun (w' : World) (k : Below w.heap.size w w') => h.below k (Nat.le_refl _))
  have HC := Lib.hid (rd_cell h)
  have HL := Lib.hid hl
  have n0 : (0 : Int) ≤ l.length := by omega
  have n2 : (l.length : Int) ≤ 65535 := by omega
  have HH := Lib.hid h
  clear h hl
  have HS0 := Lib.hid (Sep.nil w)
  go_enter Try.func18, Try.ntmps18
  have f1 : True := trivial
  have f2 : True := trivial
  have f3 : True := trivial
  have f4 : True := trivial
  have f5 : True := trivial
  have f6 : True := trivial
  go_wp2_with (first | (have _f := f1; refine alloc_sep rfl 42 rfl HS0.out (z := .agg #[.slice none 0 0, .slice none 0 0, .int .i64 0, .int .i64 0]) (cs := #[.slice none 0 0, .slice none 0 0, .int .i64 0, .int .i64 0]) (by kernel_rfl) rfl ?_; intro w1 S1 b1 s1; have HS1 := Lib.hid S1; have HB1 := Lib.hid b1; clear S1 b1 s1 _f f1) | (have _f := f2; refine (words_walk _).mono ?_; rintro e w2 ⟨rfl, hw2⟩; have HW2 := Lib.hid hw2; clear hw2 _f f2) | (have _f := f3; refine (outside_walk _).mono ?_; rintro e w3 ⟨rfl, hw3⟩; have HW3 := Lib.hid hw3; have HOK : Hid (w3.ownsRow w1.heap.size 9 1 (.slice (some ⟨w1.heap.size, 0, none⟩) 29 29) 29 (kwB.map nameV)) := Lib.hid (own_litC (xs := kwB.map nameV) (by rw [hw3, HW2.out]; exact (At.new _ _ _).old _) 29 rfl (by unfold maxLen; omega) (Nat.le_refl _)); have HRP : Hid (RdC w3 (some ⟨w2.heap.size, 0, none⟩) 28 28 (preB.map nameV)) := Lib.hid (by rw [hw3]; exact rd_atC (At.new w2 (preB.map nameV).toArray _) rfl (by unfold maxLen; omega)); have HB3 := Lib.hid (show Below w1.heap.size w1 w3 by rw [hw3, HW2.out]; exact bel2 _ _ _); clear hw3 _f f3) | (have _f := f4; at_builtin; refine append_at rfl (.tmp 19) (.tmp 20) et_str rfl w1.heap.size rfl HOK.out rfl HRP.out rfl (fun u hu => by obtain ⟨x, _, rfl⟩ := List.mem_map.1 hu; rfl) (by decide) (by decide) HB3.out.size ?_; intro v4 w4 own4 gr4 at4; obtain ⟨va, vc, rfl, rd4⟩ := RdC.own own4; have HO4 := Lib.hid own4; have HB4 : Hid (Below w1.heap.size w1 w4) := Lib.hid (((Ke.below (· = w1.heap.size) HB3.out).trans ((Ke.ofGrown gr4).mono (fun i _ e => (Option.some.inj e).symm))).toBelow (fun i hi e => absurd e (Nat.ne_of_lt hi))); have HS4 := Lib.hid (HS1.out.bel HB4.out); clear own4 gr4 at4 rd4 _f f4) | (have _f := f5; refine alloc_sep rfl 42 rfl HS4.out (z := .agg #[.slice none 0 0, .slice none 0 0, .int .i64 0, .int .i64 0]) (cs := #[.slice none 0 0, .slice none 0 0, .int .i64 0, .int .i64 0]) (by kernel_rfl) rfl ?_; intro w5 S5 b5 s5; have HS5 := Lib.hid S5; have HB5 := Lib.hid b5; clear S5 b5 s5 _f f5) | (have _f := f6; refine store_sep rfl 42 (.tmp 3) (.tmp 22) rfl HS5.out 0 rfl rfl rfl (by kernel_rfl) rfl rfl ?_; intro w6 S6 k6 s6; have HS6 := Lib.hid S6; have HK6 := Lib.hid k6; clear S6 k6 s6 _f f6))
  have HB6 : Hid (Below w.heap.size w w6) := Lib.hid (bel_then (bel_then HB1.out HB4.out) (((Ke.below (· = w4.heap.size) HB5.out).trans HK6.out).toBelow (fun i hi e => absurd e (Nat.ne_of_lt hi))))
  have HR0 : Hid (RS w.heap.size w6 w.heap.size w4.heap.size (.slice none 0 0) (.slice va 57 vc) [] allN) := Lib.hid ⟨HS6.out, Nat.le_refl _, Nat.le_trans HB1.out.size HB4.out.size, ⟨rfl, .inl ⟨rfl, rfl⟩⟩, by
    have h1 := HO4.out
    rw [← List.map_append] at h1
    have h2 : w4.ownsRow w.heap.size 9 1 (.slice va 57 vc) 57 (allN.map nameV) := ⟨h1.1, h1.2.imp id (fun ⟨b, cap, cur, q1, q2, q3⟩ => ⟨b, cap, cur, q1, Nat.le_trans HB1.out.size q2, q3⟩)⟩
    have h3 := ownsRow_ke h2 (Ke.below Non HB5.out) (fun _ _ h => h)
    exact ownsRow_ke h3 HK6.out (fun i hi e => by subst e; exact absurd ((h2.lt _ hi).2) (Nat.lt_irrefl _))⟩
  have HD0 : Hid (Rd l w w6 w.heap.size w4.heap.size 0 0 (.slice none 0 0) (.slice va 57 vc) allN) := Lib.hid ⟨rfl, fine_fresh l, fun j hj => absurd hj (Nat.not_lt_zero j), rfl, Nat.le_refl _, allN_nodup, by decide, HR0.out, HB6.out⟩
  obtain ⟨g3, hg3⟩ : ∃ g3, g3 = w4.heap.size := ⟨_, rfl⟩
  obtain ⟨g2, hg2⟩ : ∃ g2, g2 = w.heap.size := ⟨_, rfl⟩
  have HD1 : Hid (Rd l w w6 g2 g3 0 0 (.slice none 0 0) (.slice va 57 vc) allN) := Lib.hid (by rw [hg2, hg3]; exact HD0.out)
  rw [← hg3, ← hg2]
  clear HD0 HR0 hg2 hg3 HS0 HS1 HB1 HW2 HOK HRP HB3 HW3 HO4 HB4 HS4 HS5 HB5 HS6 HK6 HB6
  go_loopg [4] l.length (fun gk iv wr => ∃ (m i : Nat) (A N : Value) (nms : List (List UInt8)), iv = .int .i64 i ∧ l.length - i ≤ gk ∧ Rd l w wr g2 g3 m i A N nms)
  case atStart => exact ⟨0, 0, _, _, _, rfl, Nat.le_refl _, HD1.out⟩
  case round =>
    obtain ⟨go, rfl⟩ : ∃ go, go = gk := ⟨_, rfl⟩
    obtain ⟨wo, rfl⟩ : ∃ wo, wo = wr := ⟨_, rfl⟩
    obtain ⟨m, i, A, N, nms, rfl, hgk, hrd⟩ := hrel
    have HGO := Lib.hid hgk
    have HD := Lib.hid hrd
    obtain ⟨ap, ac, rfl, _⟩ := RdC.own hrd.rs.a
    obtain ⟨np, nc, rfl, _⟩ := RdC.own hrd.rs.n
    rw [List.length_map, List.length_range] at HD
    have hfg := fine_get hrd.fine
    rw [hrd.at', hrd.nm] at hfg
    rcases hfg with ⟨j, hb, _⟩ | ⟨hb, he⟩ | ⟨j, hb, hij, hjl, he⟩
    · exact scan_A HH.out HL.out HD.out HGO.out hb (by assumption) (by assumption)
    · exact scan_E HH.out HL.out HD.out HGO.out hb he (by assumption) (by assumption)
    · cases c1 : letterB (l.getD j 0)
      · cases c2 : digitB (l.getD j 0)
        · by_cases c3 : l.getD j 0 = 34
          · exact scan_T HH.out HL.out HD.out HGO.out hb hij hjl he c1 c2 c3 (by assumption) (by assumption)
          · exact scan_S HH.out HL.out HD.out HGO.out hb hij hjl he c1 c2 c3 (by assumption) (by assumption)
        · exact scan_N HH.out HL.out HD.out HGO.out hb hij hjl he c1 c2 (by assumption) (by assumption)
      · exact scan_L HH.out HL.out HD.out HGO.out hb hij hjl he c1 (by assumption) (by assumption)

end Go.Proofs.Ytdgiijidgjagbaa
