/- Contract: object.Bytes of an object that may be. Printed by bin/gen_objbytes.py. -/
import Derived.Test.YteagpjcflcahoaaObjWr
import Derived.Test.YteagpjcflcahoaaObjMay
import Derived.Test.YteagpjcflcahoaaTailK
import Derived.Lib.SlBytesConst
namespace Go.Proofs.Yteagpjcflcahoaa
set_option linter.unusedVariables false
set_option linter.unusedSimpArgs false
open Go.RowKit

theorem rdF {w : World} {base : Nat} {v : Value} {l : List Int} (h : w.ownsRowF base 5 1 v l.length (l.map (Value.int .u8))) (hb : ∀ x ∈ l, isByte x) : ∃ a c, v = .slice a l.length c ∧ RdI .u8 w a c l := by
  obtain ⟨h2, h3⟩ := h
  rcases h3 with ⟨rfl, h0⟩ | ⟨b, cap, cur, fz, rfl, q2, q3, q4, q5, q6, q7, q8⟩
  · have : l = [] := List.length_eq_zero_iff.1 h0
    subst this
    exact ⟨none, 0, rfl, RdC.nilSlice w, fun x hx => by cases hx⟩
  · refine ⟨_, _, rfl, ⟨⟨b, 0, fun _ => ⟨rfl, (Array.getElem?_eq_some_iff.1 q3).1⟩, fun j u hj => ?_⟩, fun e => (by cases e), q5, q6⟩, fun x hx => bd_u8' (hb x hx)⟩
    rw [Nat.zero_add, cell_of_row w b j cur _ fz q3]
    rw [← q8, List.getElem?_take] at hj
    split at hj
    · simpa using hj
    · cases hj
/-- a writer beside an object. -/
structure OW (w0 wr : World) (g1 : Nat) (cs : Array Value) (g n : Nat) (B : Value) (xs : List Int) : Prop where
  wr' : Wr w0 wr g n B xs
  obj : At wr g1 cs 29
  low : w0.heap.size ≤ g1
variable {w0 wr wz : World} {g1 g n : Nat} {cs : Array Value} {B : Value} {xs ys : List Int}
theorem OW.ne (h : OW w0 wr g1 cs g n B xs) : g1 ≠ g := fun e => by
  have h1 := h.obj
  have h2 := h.wr'.box
  subst e
  unfold At at h1 h2
  rw [h1] at h2
  simp only [Option.some.injEq, Obj.cells.injEq] at h2
  exact absurd h2.2.1 (by decide)
theorem OW.on (h : OW w0 wr g1 cs g n B xs) (k : Below wr.heap.size wr wz) : OW w0 wz g1 cs g n B xs := ⟨h.wr'.on k, h.obj.bel k, h.low⟩
theorem OW.more (h : OW w0 wr g1 cs g n B xs) {n' : Nat} (hn : n ≤ n') : OW w0 wr g1 cs g n' B xs := ⟨h.wr'.more hn, h.obj, h.low⟩
theorem OW.wrote (h : OW w0 wr g1 cs g n B xs) (k : Wrote w0 wr g n B xs ys wz) : ∃ B', OW w0 wz g1 cs g (n + ys.length) B' (xs ++ ys) ∧ Kept g wr wz := by
  obtain ⟨B', h1, h2⟩ := k
  exact ⟨B', ⟨h1, h2 _ _ _ h.obj (by decide) h.ne, h.low⟩, h2⟩
theorem ow_start {w w1 : World} {cs : Array Value} {g1 : Nat} (ha : At w1 g1 cs 29) (hb : Below w.heap.size w w1) :
    Wr1 w ((w1.alloc (.cells #[.int .u8 79, .int .u8 49] 5 (2, 3))).alloc (.cells #[.slice (some ⟨w1.heap.size, 0, none⟩) 2 2] 66)) (w1.heap.size + 1) w1.heap.size ∧ At ((w1.alloc (.cells #[.int .u8 79, .int .u8 49] 5 (2, 3))).alloc (.cells #[.slice (some ⟨w1.heap.size, 0, none⟩) 2 2] 66)) g1 cs 29 := by
  have h2 := At.new (w1.alloc (.cells #[.int .u8 79, .int .u8 49] 5 (2, 3))) #[.slice (some ⟨w1.heap.size, 0, none⟩) 2 2] 66
  rw [show (w1.alloc (.cells #[.int .u8 79, .int .u8 49] 5 (2, 3))).heap.size = w1.heap.size + 1 by simp] at h2
  have hn : (w1.alloc (.cells #[.int .u8 79, .int .u8 49] 5 (2, 3))).heap[w1.heap.size]? = some (.cells #[.int .u8 79, .int .u8 49] 5 (2, 3)) := heap_alloc_new w1 _
  have hc : ∀ (j : Nat) (u : Value), (#[Value.int .u8 79, Value.int .u8 49])[j]? = some u → ((w1.alloc (.cells #[.int .u8 79, .int .u8 49] 5 (2, 3))).alloc (.cells #[.slice (some ⟨w1.heap.size, 0, none⟩) 2 2] 66)).cell? ⟨w1.heap.size, j, none⟩ = some u := fun j u hj =>
    ((bel1 (w1.alloc (.cells #[.int .u8 79, .int .u8 49] 5 (2, 3))) (.cells #[.slice (some ⟨w1.heap.size, 0, none⟩) 2 2] 66)).cell (p := ⟨w1.heap.size, j, none⟩) (by simp)).trans ((cell_of_row _ _ j _ _ _ hn).trans hj)
  exact ⟨⟨h2, Nat.le_succ_of_le hb.size, hc 0 _ rfl, hc 1 _ rfl, by simp; omega, bel_then hb (bel2 w1 _ _)⟩, (ha.old _).old _⟩
theorem OW.first {b : Nat} (h : Wr1 w0 wr g b) (ha : At wr g1 cs 29) (hl : w0.heap.size ≤ g1) (hne : g1 ≠ g) {B' : Value} {n : Nat} (hw : Wr w0 wz g n B' xs) (hk : Kept g wr wz) : OW w0 wz g1 cs g n B' xs := ⟨hw, hk _ _ _ ha (by decide) hne, hl⟩

set_option maxRecDepth 100000 in
set_option maxHeartbeats 16000000 in
theorem obytes_walk (x : Obj) (w : World) (h : x.Rd w) (hm : mayObj x.d = true) :
    Calls Try.prog 15 #[x.val] w fun e w' => ∃ a c, e = .returned (.tuple #[.slice a x.d.bytes.length c, .int .i64 0]) ∧ RdI .u8 w' a c x.d.bytes ∧ Below w.heap.size w w' := by
  have HR := Lib.hid h
  have HF := Lib.hid (Fits.of hm)
  have HMY : Hid (∀ W, Below w.heap.size w W → Calls Try.prog 31 #[x.val] W fun e w' => e = .returned (.bool true) ∧ Below W.heap.size W w') := Lib.hid (fun W k => by have := omay_walk x W (h.bel k); rw [hm] at this; exact this)
  clear h hm
  obtain ⟨nm, ky, ⟨a2, c2, l2⟩, vs, ⟨a4, c4, l4⟩, ⟨a5, c5, l5⟩, ⟨a6, c6, l6⟩, ⟨a7, c7, l7⟩⟩ := x
  dsimp only [Obj.d] at HF
  show Calls _ _ #[.agg #[.string nm, .int .u32 ky, .slice a2 l2.length c2, .int .i64 vs, .slice a4 l4.length c4, .slice a5 l5.length c5, .slice a6 l6.length c6, .slice a7 l7.length c7]] w fun e w' => ∃ a c, e = .returned (.tuple #[.slice a (OD.bytes ⟨nm, ky, l2, vs, l4, l5, l6, l7⟩).length c, .int .i64 0]) ∧ RdI .u8 w' a c (OD.bytes ⟨nm, ky, l2, vs, l4, l5, l6, l7⟩) ∧ _
  have HMZ : Hid (∀ W, Below w.heap.size w W → Calls Try.prog 31 #[.agg #[.string nm, .int .u32 ky, .slice a2 l2.length c2, .int .i64 vs, .slice a4 l4.length c4, .slice a5 l5.length c5, .slice a6 l6.length c6, .slice a7 l7.length c7]] W fun e w' => e = .returned (.bool true) ∧ Below W.heap.size W w') := HMY
  clear HMY
  have HN15 : Hid (nm.size ≤ 15) := Lib.hid HF.out.name
  have HNL : Hid ((nameB nm).length ≤ 16) := Lib.hid (by rw [nameB_len]; have := HN15.out; omega)
  have HKY : Hid (0 ≤ ky ∧ ky < 4294967296) := Lib.hid HR.out.key
  have v0 : 0 ≤ vs := HF.out.vars.1
  have v1 : vs ≤ 262144 := HF.out.vars.2
  have HVS : Hid (0 ≤ vs ∧ vs < 4294967296) := Lib.hid (by omega)
  have t1 : (l4.length : Int) ≤ 8192 := by have := HF.out.text; dsimp only at this; omega
  have HTX : Hid (0 ≤ (l4.length : Int) ∧ (l4.length : Int) < 4294967296) := Lib.hid (by omega)
  have HT4 : Hid (l4.length ≤ 8192) := Lib.hid HF.out.text
  have u1 : (l5.length : Int) ≤ 16384 := by have := HF.out.code; dsimp only at this; omega
  have HCD : Hid (0 ≤ (l5.length : Int) ∧ (l5.length : Int) < 4294967296) := Lib.hid (by omega)
  have z1 : (l7.length : Int) ≤ 8192 := by have := HF.out.nfix; dsimp only at this; omega
  have HFX : Hid (0 ≤ (l7.length : Int) ∧ (l7.length : Int) < 4294967296) := Lib.hid (by omega)
  have i2 := HR.out.imps.len
  have i6 := HR.out.entries.len
  dsimp only at i2 i6
  have HTXT : Hid (RdI .u8 w a4 c4 l4) := Lib.hid HR.out.text.rdI
  have kc := fun (w : World) (C : Array Value) (n c : Nat) => Lib.run_convert_bytes_const (P := Try.prog) w 24 5 C n c Try.underlying24 Try.underlying5
  have HSN := Lib.hid (fun w' : World => Sep.nil w')
  obtain ⟨b2, o2, hat, hcell⟩ := HR.out.imps.at'
  have HAT2 := Lib.hid hat
  have HCELL2 := Lib.hid hcell
  clear hat hcell
  dsimp only at HAT2 HCELL2
  obtain ⟨b5, o5, hat, hcell⟩ := HR.out.code.at'
  have HAT5 := Lib.hid hat
  have HCELL5 := Lib.hid hcell
  clear hat hcell
  dsimp only at HAT5 HCELL5
  obtain ⟨b6, o6, hat, hcell⟩ := HR.out.entries.at'
  have HAT6 := Lib.hid hat
  have HCELL6 := Lib.hid hcell
  clear hat hcell
  dsimp only at HAT6 HCELL6
  obtain ⟨b7, o7, hat, hcell⟩ := HR.out.fixups.at'
  have HAT7 := Lib.hid hat
  have HCELL7 := Lib.hid hcell
  clear hat hcell
  dsimp only at HAT7 HCELL7
  have f0 : True := trivial
  have f1 : True := trivial
  have f2 : True := trivial
  have f3 : True := trivial
  have f4 : True := trivial
  go_enter Try.func15, Try.ntmps15
  go_wp2_with (first | (have _f := f0; refine load_sep (cs := #[.string nm, .int .u32 ky, .slice a2 l2.length c2, .int .i64 vs, .slice a4 l4.length c4, .slice a5 l5.length c5, .slice a6 l6.length c6, .slice a7 l7.length c7]) rfl 29 (.tmp 1) rfl (Sep.one (At.new w #[.string nm, .int .u32 ky, .slice a2 l2.length c2, .int .i64 vs, .slice a4 l4.length c4, .slice a5 l5.length c5, .slice a6 l6.length c6, .slice a7 l7.length c7] 29)) 0 rfl rfl Try.underlying29 rfl (by kernel_rfl) ?_; clear _f f0) | (have _f := f1; refine (HMZ.out _ (bel1 _ _)).mono ?_; rintro e w1 ⟨rfl, hb⟩; have HA1 := Lib.hid ((At.new w #[.string nm, .int .u32 ky, .slice a2 l2.length c2, .int .i64 vs, .slice a4 l4.length c4, .slice a5 l5.length c5, .slice a6 l6.length c6, .slice a7 l7.length c7] 29).bel hb); have HO0 := Lib.hid (ow_start HA1.out (bel_then (bel1 w _) hb)); have HNE := Lib.hid (show w.heap.size ≠ w1.heap.size + 1 by have := HA1.out.lt; omega); have d0_0 := (HO0.out.2.cell 0).trans (show _ = some (.string nm) from rfl); clear hb _f f1) | (have _f := f2; refine (wname_first HO0.out.1 nm HN15.out).mono ?_; rintro e w2 ⟨rfl, ⟨B1, hw⟩, hk⟩; have HO1 := Lib.hid (OW.first HO0.out.1 HO0.out.2 (Nat.le_refl _) HNE.out hw hk); have d1_1 := (HO1.out.obj.cell 1).trans (show _ = some (.int .u32 ky) from rfl); clear hw hk d0_0 _f f2) | (have _f := f3; refine (wword_walk HO1.out.wr' (by have := HNL.out; omega) ky HKY.out).mono ?_; rintro e w2 ⟨rfl, hw⟩; obtain ⟨B2, hq, hkp⟩ := HO1.out.wrote hw; have HO2 := Lib.hid hq; have HKP2 := Lib.hid hkp; have d2_2 := (HO2.out.obj.cell 2).trans (show _ = some (.slice a2 l2.length c2) from rfl); clear hw hq hkp d1_1 _f f3) | (have _f := f4; refine (wbyte_walk HO2.out.wr' (by have := HNL.out; show 2 + _ + 4 ≤ 900000; omega) l2.length).mono ?_; rintro e w3 ⟨rfl, hw⟩; obtain ⟨B3, hq, hkp⟩ := HO2.out.wrote hw; have HO3 := Lib.hid hq; have HKP3 := Lib.hid hkp; have d2_3 := (HO3.out.obj.cell 2).trans (show _ = some (.slice a2 l2.length c2) from rfl); clear hw hq hkp d2_2 _f f4))
  clear d2_3 HO0 HO1 HO2 HKP2 HKP3
  obtain ⟨g1, hg1⟩ : ∃ g1, g1 = w.heap.size := ⟨_, rfl⟩
  obtain ⟨g, hg⟩ : ∃ g, g = w1.heap.size + 1 := ⟨_, rfl⟩
  have HG1 := Lib.hid hg1
  rw [← hg1, ← hg] at HO3 ⊢
  clear hg1 hg HNE HA1
  have HO4 := Lib.hid (HO3.out.more (show 2 + (nameB nm).length + (wordB ky).length + 1 ≤ 23 by have := HNL.out; rw [wordB_len]; omega))
  clear HO3
  go_loopw [36] (fun i wr => ∃ (k : Nat) (B : Value), i = .int .i64 k ∧ k ≤ l2.length ∧ OW w wr g1 #[.string nm, .int .u32 ky, .slice a2 l2.length c2, .int .i64 vs, .slice a4 l4.length c4, .slice a5 l5.length c5, .slice a6 l6.length c6, .slice a7 l7.length c7] g (23 + 20 * k) B ((([79, 49] ++ nameB nm) ++ wordB ky ++ [(l2.length : Int) % 256]) ++ (l2.take k).flatMap impB)) (fun i _ => l2.length - (intOf i).toNat)
  case atStart => exact ⟨0, _, rfl, Nat.zero_le _, by rw [List.take_zero, List.flatMap_nil, List.append_nil]; exact HO4.out⟩
  case round =>
    obtain ⟨k, B, rfl, hk, hq⟩ := hrel
    have HOr := Lib.hid hq
    clear hq
    by_cases hlt : k < l2.length
    · obtain ⟨⟨xn, xk⟩, hx⟩ := get_lt hlt
      obtain ⟨rfl, hb⟩ := HAT2.out (by omega)
      have HCO : Hid (∀ (q : Nat) (y : Value), ([.string xn, .int .u32 xk] : List Value)[q]? = some y → wr.cell? ⟨b2, o2 + k * 2 + q, none⟩ = some y) := Lib.hid (fun q y hy => (HOr.out.wr'.bel.cell (p := ⟨b2, o2 + k * 2 + q, none⟩) hb).trans (HCELL2.out k _ hx q y hy))
      have HX := Lib.hid hx
      have HLT := Lib.hid hlt
      have HXN : Hid (xn.size ≤ 15) := Lib.hid (HF.out.imps _ (List.mem_of_getElem? hx))
      have HXL : Hid ((nameB xn).length ≤ 16) := Lib.hid (by rw [nameB_len]; have := HXN.out; omega)
      have HXK : Hid (0 ≤ xk ∧ xk < 4294967296) := Lib.hid (HR.out.imps.all _ (List.mem_of_getElem? hx)).2
      have HK12 : Hid (k < 12) := Lib.hid (by have := HF.out.nimps; dsimp only at this; omega)
      clear hx hb
      have f1 : True := trivial
      have f2 : True := trivial
      have f3 : True := trivial
      have f4 : True := trivial
      have f5 : True := trivial
      go_wp2_with (first | (have _f := f1; refine wpList_load_mid rfl 45 (.tmp 38) rfl b2 (o2 + k * 2) rfl [.string xn, .int .u32 xk] _ HCO.out Try.underlying45 rfl (by kernel_rfl) ?_; clear _f f1) | (have _f := f2; refine alloc_sep rfl 45 rfl (HSN.out _) (z := .agg #[.string ⟨#[]⟩, .int .u32 0]) (cs := #[.string ⟨#[]⟩, .int .u32 0]) (by kernel_rfl) rfl ?_; intro wc S' b' s'; have HSc := Lib.hid S'; have HBc := Lib.hid b'; clear S' b' s' _f f2) | (have _f := f3; refine store_sep (cells := #[.string xn, .int .u32 xk]) rfl 45 (.tmp 6) (.tmp 39) rfl HSc.out 0 rfl rfl rfl (by kernel_rfl) rfl rfl ?_; intro we S' k' s'; have HXE := Lib.hid (S'.at 0 rfl); have HOe := Lib.hid (HOr.out.on (((Ke.below (· = wr.heap.size) HBc.out).trans k').toBelow (fun i hi e => absurd e (Nat.ne_of_lt hi)))); have HGX := Lib.hid (show wr.heap.size ≠ g from fun e => absurd HOr.out.wr'.box.lt (by omega)); have x0_e := (HXE.out.cell 0).trans (show _ = some (.string xn) from rfl); clear S' k' s' _f f3) | (have _f := f4; refine (wname_walk HOe.out.wr' (by have := HK12.out; omega) xn HXN.out).mono ?_; rintro e w5 ⟨rfl, hw⟩; obtain ⟨B5, hq, hkp⟩ := HOe.out.wrote hw; have HO5 := Lib.hid hq; have HX5 := Lib.hid (hkp _ _ _ HXE.out (by decide) HGX.out); have x1_5 := (HX5.out.cell 1).trans (show _ = some (.int .u32 xk) from rfl); clear hw hq hkp x0_e _f f4) | (have _f := f5; refine (wword_walk HO5.out.wr' (by have := HK12.out; have := HXL.out; omega) xk HXK.out).mono ?_; rintro e w6 ⟨rfl, hw⟩; obtain ⟨B6, hq, hkp⟩ := HO5.out.wrote hw; have HO6 := Lib.hid hq; have HX6 := Lib.hid (hkp _ _ _ HX5.out (by decide) HGX.out); clear hw hq hkp x1_5 _f f5))
      go_roundw
      case rel =>
        refine ⟨k + 1, B6, by go_num, HLT.out, ?_⟩
        rw [show ((([79, 49] ++ nameB nm) ++ wordB ky ++ [(l2.length : Int) % 256]) ++ (l2.take (k + 1)).flatMap impB) = ((([79, 49] ++ nameB nm) ++ wordB ky ++ [(l2.length : Int) % 256]) ++ (l2.take k).flatMap impB) ++ nameB xn ++ wordB xk by rw [take_flat HX.out]; unfold impB; simp only [List.append_assoc]]
        exact HO6.out.more (by rw [wordB_len]; have := HXL.out; omega)
      case measure => simp [intOf]; have := HLT.out; omega
    · have h4 := HOr.out
      rw [take_all (by omega)] at h4
      have HO7 := Lib.hid (h4.more (show 23 + 20 * k ≤ 263 by have := HF.out.nimps; dsimp only at this; omega))
      clear h4 HOr hk
      have d3_7 := (HO7.out.obj.cell 3).trans (show _ = some (.int .i64 vs) from rfl)
      have f1 : True := trivial
      have f2 : True := trivial
      go_wp2_with (first | (have _f := f1; refine (wword_walk HO7.out.wr' (by decide) vs HVS.out).mono ?_; rintro e w8 ⟨rfl, hw⟩; obtain ⟨B8, hq, hkp⟩ := HO7.out.wrote hw; have HO8 := Lib.hid hq; have HKP8 := Lib.hid hkp; have d4_8 := (HO8.out.obj.cell 4).trans (show _ = some (.slice a4 l4.length c4) from rfl); clear hw hq hkp d3_7 _f f1) | (have _f := f2; refine (wword_walk HO8.out.wr' (by show 263 + 4 ≤ 900000; decide) l4.length HTX.out).mono ?_; rintro e w9 ⟨rfl, hw⟩; obtain ⟨B9, hq, hkp⟩ := HO8.out.wrote hw; have HO9 := Lib.hid hq; have HKP9 := Lib.hid hkp; clear hw hq hkp d4_8 _f f2))
      clear hlt
      have HO10 := Lib.hid (HO9.out.more (show 263 + 4 + 4 ≤ 271 by decide))
      clear HO7 HO8 HO9 HKP8 HKP9
      refine wp_region_tailK (G := ByG2 w g1 g) [([0, 1, 2, 3, 4, 5, 6], 7)] [8, 9] 10 [9, 8, 7, 6, 5, 4, 3, 2, 1, 0] (by kernel_rfl) (by kernel_rfl) (fun _ _ d _ _ h => by cases d <;> exact h) ?_
      have HO11 := Lib.hid (HO10.out.on (Below.refl _ _).drew)
      have HNG := Lib.hid HO11.out.ne
      have l1 := (HO11.out.wr'.box).laterCell (G := ByG2 w g1 g) (fun e => e.2.2 rfl) 0 (v := B9) rfl
      have l2' := HO11.out.obj.laterCell (G := ByG2 w g1 g) (fun e => e.2.1 rfl) 4 (v := .slice a4 l4.length c4) rfl
      refine mixT_stepK ?_
      simp only [pickOps, nth, Act.put, List.setIfInBounds_toArray, List.set_cons_succ, List.set_cons_zero]
      (repeat (go_big_quiet_step (fail)))
      refine wpQuiet_nil ?_
      clear l1 l2'
      refine append_atF rfl (.tmp 64) (.tmp 66) et_u8 rfl w.heap.size rfl HO11.out.wr'.own rfl (HTXT.out.below HO11.out.wr'.bel (Nat.le_refl _)).row (by rw [List.length_map, Nat.mul_one]) (ints_one .u8 _) (HO11.out.wr'.room (by have := HT4.out; omega)) (HO11.out.wr'.room' (by have := HT4.out; omega)) HO11.out.wr'.bel.size ?_
      intro v12 w12 own12 gr12
      have HG12 := Lib.hid (HO11.out.wr'.grow own12 gr12 rfl (fun x hx => bd_u8 (HTXT.out.bd x hx)))
      have HS12 := Lib.hid (Sep.one HG12.out.1)
      have HK12 : Hid (Ke (ByG2 w g1 g) _ w12) := Lib.hid ((Ke.ofGrown gr12).mono (fun i _ e => ⟨(HO11.out.wr'.own.lt i e).1, fun e' => ownsRowF_no HO11.out.wr'.own HO11.out.obj (by decide) (e' ▸ e), fun e' => ownsRowF_no HO11.out.wr'.own HO11.out.wr'.box (by decide) (e' ▸ e)⟩))
      obtain ⟨pa, pc, rfl⟩ := ownF_slice own12
      clear own12 gr12
      refine ⟨HK12.out, mixT_endK ?_⟩
      simp only [pickOps, nth, Act.put, List.setIfInBounds_toArray, List.set_cons_succ, List.set_cons_zero]
      (repeat (go_big_quiet_step (fail)))
      refine wpQuiet_nil ?_
      try simp only [pickOps, nth, Act.put, List.setIfInBounds_toArray, List.set_cons_succ, List.set_cons_zero]
      obtain ⟨pn, hpn⟩ : ∃ pn, pn = ((((([79, 49] ++ nameB nm) ++ wordB ky ++ [(l2.length : Int) % 256]) ++ l2.flatMap impB) ++ wordB vs ++ wordB l4.length)).length + l4.length := ⟨_, rfl⟩
      rw [← hpn] at HG12 ⊢
      refine store1_sep rfl 24 (.tmp 69) (.tmp 67) rfl HS12.out 0 (old := #[B9]) (v := .slice pa pn pc) rfl rfl rfl rfl (by kernel_rfl) rfl ?_
      intro w13 S2 k2 _
      have HE13 := Lib.hid (HG12.out.2 w13 (S2.at 0 rfl) k2)
      have HO13 : Hid (OW w w13 g1 #[.string nm, .int .u32 ky, .slice a2 l2.length c2, .int .i64 vs, .slice a4 l4.length c4, .slice a5 l5.length c5, .slice a6 l6.length c6, .slice a7 l7.length c7] g (271 + l4.length) (.slice pa pn pc) ((((([79, 49] ++ nameB nm) ++ wordB ky ++ [(l2.length : Int) % 256]) ++ l2.flatMap impB) ++ wordB vs ++ wordB l4.length) ++ l4)) := Lib.hid ⟨HE13.out.1, HE13.out.2 _ _ _ HO11.out.obj (by decide) HO11.out.ne, HO11.out.low⟩
      have HO14 := Lib.hid (HO13.out.more (show 271 + l4.length ≤ 8463 by have := HT4.out; omega))
      clear S2 k2 HE13 HO13 HO11 HO10 HG12 HS12 HK12 hpn
      have d5_14 := (HO14.out.obj.cell 5).trans (show _ = some (.slice a5 l5.length c5) from rfl)
      have f1 : True := trivial
      go_wp2_with ((have _f := f1; refine (wword_walk HO14.out.wr' (by decide) l5.length HCD.out).mono ?_; rintro e w15 ⟨rfl, hw⟩; obtain ⟨B15, hq, hkp⟩ := HO14.out.wrote hw; have HO15 := Lib.hid hq; have HKP15 := Lib.hid hkp; have d5_15 := (HO15.out.obj.cell 5).trans (show _ = some (.slice a5 l5.length c5) from rfl); clear hw hq hkp d5_14 _f f1))
      clear d5_15 HKP15
      have HO16 := Lib.hid (HO15.out.more (show 8463 + 4 ≤ 8467 by decide))
      clear HO14 HO15
      go_loopw [79] (fun i wr => ∃ (k : Nat) (B : Value), i = .int .i64 k ∧ k ≤ l5.length ∧ OW w wr g1 #[.string nm, .int .u32 ky, .slice a2 l2.length c2, .int .i64 vs, .slice a4 l4.length c4, .slice a5 l5.length c5, .slice a6 l6.length c6, .slice a7 l7.length c7] g (8467 + 4 * k) B (((((([79, 49] ++ nameB nm) ++ wordB ky ++ [(l2.length : Int) % 256]) ++ l2.flatMap impB) ++ wordB vs ++ wordB l4.length) ++ l4 ++ wordB l5.length) ++ (l5.take k).flatMap wordB)) (fun i _ => l5.length - (intOf i).toNat)
      case atStart => exact ⟨0, _, rfl, Nat.zero_le _, by rw [List.take_zero, List.flatMap_nil, List.append_nil]; exact HO16.out⟩
      case round =>
        obtain ⟨k, B, rfl, hk, hq⟩ := hrel
        have HOr := Lib.hid hq
        clear hq
        by_cases hlt : k < l5.length
        · obtain ⟨xv, hx⟩ := get_lt hlt
          obtain ⟨rfl, hb⟩ := HAT5.out (by omega)
          have ce : wr.cell? ⟨b5, o5 + k, none⟩ = some (.int .u32 xv) := (HOr.out.wr'.bel.cell hb).trans (int_cell HCELL5.out hx)
          have HX := Lib.hid hx
          have HLT := Lib.hid hlt
          have HXV : Hid (0 ≤ xv ∧ xv < 4294967296) := Lib.hid (bd_u32 (HR.out.code.all _ (List.mem_of_getElem? hx)))
          have HK5 : Hid (k < 16384) := Lib.hid (by have := HF.out.code; dsimp only at this; omega)
          clear hx hb
          have f1 : True := trivial
          go_wp2_with ((have _f := f1; refine (wword_walk HOr.out.wr' (by have := HK5.out; omega) xv HXV.out).mono ?_; rintro e w5 ⟨rfl, hw⟩; obtain ⟨B5, hq, hkp⟩ := HOr.out.wrote hw; have HO5 := Lib.hid hq; have HKP5 := Lib.hid hkp; clear hw hq hkp ce _f f1))
          go_roundw
          case rel =>
            refine ⟨k + 1, B5, by go_num, HLT.out, ?_⟩
            rw [show (((((([79, 49] ++ nameB nm) ++ wordB ky ++ [(l2.length : Int) % 256]) ++ l2.flatMap impB) ++ wordB vs ++ wordB l4.length) ++ l4 ++ wordB l5.length) ++ (l5.take (k + 1)).flatMap wordB) = (((((([79, 49] ++ nameB nm) ++ wordB ky ++ [(l2.length : Int) % 256]) ++ l2.flatMap impB) ++ wordB vs ++ wordB l4.length) ++ l4 ++ wordB l5.length) ++ (l5.take k).flatMap wordB) ++ wordB xv by rw [take_flat HX.out]; simp only [List.append_assoc]]
            exact HO5.out.more (by rw [wordB_len]; omega)
          case measure => simp [intOf]; have := HLT.out; omega
        · have h4 := HOr.out
          rw [take_all (by omega)] at h4
          have HO17 := Lib.hid (h4.more (show 8467 + 4 * k ≤ 74003 by have := HF.out.code; dsimp only at this; omega))
          clear h4 HOr hk
          have d6_17 := (HO17.out.obj.cell 6).trans (show _ = some (.slice a6 l6.length c6) from rfl)
          have f1 : True := trivial
          go_wp2_with ((have _f := f1; refine (wbyte_walk HO17.out.wr' (by decide) l6.length).mono ?_; rintro e w18 ⟨rfl, hw⟩; obtain ⟨B18, hq, hkp⟩ := HO17.out.wrote hw; have HO18 := Lib.hid hq; have HKP18 := Lib.hid hkp; have d6_18 := (HO18.out.obj.cell 6).trans (show _ = some (.slice a6 l6.length c6) from rfl); clear hw hq hkp d6_17 _f f1))
          clear d6_18 HKP18 hlt
          have HO19 := Lib.hid (HO18.out.more (show 74003 + 1 ≤ 74004 by decide))
          clear HO17 HO18
          go_loopw [95] (fun i wr => ∃ (k : Nat) (B : Value), i = .int .i64 k ∧ k ≤ l6.length ∧ OW w wr g1 #[.string nm, .int .u32 ky, .slice a2 l2.length c2, .int .i64 vs, .slice a4 l4.length c4, .slice a5 l5.length c5, .slice a6 l6.length c6, .slice a7 l7.length c7] g (74004 + 4 * k) B (((((((([79, 49] ++ nameB nm) ++ wordB ky ++ [(l2.length : Int) % 256]) ++ l2.flatMap impB) ++ wordB vs ++ wordB l4.length) ++ l4 ++ wordB l5.length) ++ l5.flatMap wordB) ++ [(l6.length : Int) % 256]) ++ (l6.take k).flatMap wordB)) (fun i _ => l6.length - (intOf i).toNat)
          case atStart => exact ⟨0, _, rfl, Nat.zero_le _, by rw [List.take_zero, List.flatMap_nil, List.append_nil]; exact HO19.out⟩
          case round =>
            obtain ⟨k, B, rfl, hk, hq⟩ := hrel
            have HOr := Lib.hid hq
            clear hq
            by_cases hlt : k < l6.length
            · obtain ⟨xv, hx⟩ := get_lt hlt
              obtain ⟨rfl, hb⟩ := HAT6.out (by omega)
              have ce : wr.cell? ⟨b6, o6 + k, none⟩ = some (.int .i64 xv) := (HOr.out.wr'.bel.cell hb).trans (int_cell HCELL6.out hx)
              have HX := Lib.hid hx
              have HLT := Lib.hid hlt
              obtain ⟨xv0, xv1⟩ := HF.out.ent _ (List.mem_of_getElem? hx)
              have HXV : Hid (0 ≤ xv ∧ xv < 4294967296) := Lib.hid (by omega)
              have HK6 : Hid (k < 201) := Lib.hid (by have := HF.out.nent; dsimp only at this; omega)
              clear hx hb
              have f1 : True := trivial
              go_wp2_with ((have _f := f1; refine (wword_walk HOr.out.wr' (by have := HK6.out; omega) xv HXV.out).mono ?_; rintro e w5 ⟨rfl, hw⟩; obtain ⟨B5, hq, hkp⟩ := HOr.out.wrote hw; have HO5 := Lib.hid hq; have HKP5 := Lib.hid hkp; clear hw hq hkp ce _f f1))
              go_roundw
              case rel =>
                refine ⟨k + 1, B5, by go_num, HLT.out, ?_⟩
                rw [show (((((((([79, 49] ++ nameB nm) ++ wordB ky ++ [(l2.length : Int) % 256]) ++ l2.flatMap impB) ++ wordB vs ++ wordB l4.length) ++ l4 ++ wordB l5.length) ++ l5.flatMap wordB) ++ [(l6.length : Int) % 256]) ++ (l6.take (k + 1)).flatMap wordB) = (((((((([79, 49] ++ nameB nm) ++ wordB ky ++ [(l2.length : Int) % 256]) ++ l2.flatMap impB) ++ wordB vs ++ wordB l4.length) ++ l4 ++ wordB l5.length) ++ l5.flatMap wordB) ++ [(l6.length : Int) % 256]) ++ (l6.take k).flatMap wordB) ++ wordB xv by rw [take_flat HX.out]; simp only [List.append_assoc]]
                exact HO5.out.more (by rw [wordB_len]; omega)
              case measure => simp [intOf]; have := HLT.out; omega
            · have h4 := HOr.out
              rw [take_all (by omega)] at h4
              have HO20 := Lib.hid (h4.more (show 74004 + 4 * k ≤ 74808 by have := HF.out.nent; dsimp only at this; omega))
              clear h4 HOr hk
              have d7_20 := (HO20.out.obj.cell 7).trans (show _ = some (.slice a7 l7.length c7) from rfl)
              have f1 : True := trivial
              go_wp2_with ((have _f := f1; refine (wword_walk HO20.out.wr' (by decide) l7.length HFX.out).mono ?_; rintro e w21 ⟨rfl, hw⟩; obtain ⟨B21, hq, hkp⟩ := HO20.out.wrote hw; have HO21 := Lib.hid hq; have HKP21 := Lib.hid hkp; have d7_21 := (HO21.out.obj.cell 7).trans (show _ = some (.slice a7 l7.length c7) from rfl); clear hw hq hkp d7_20 _f f1))
              clear d7_21 HKP21 hlt
              have HO22 := Lib.hid (HO21.out.more (show 74808 + 4 ≤ 74812 by decide))
              clear HO20 HO21
              go_loopw [113] (fun i wr => ∃ (k : Nat) (B : Value), i = .int .i64 k ∧ k ≤ l7.length ∧ OW w wr g1 #[.string nm, .int .u32 ky, .slice a2 l2.length c2, .int .i64 vs, .slice a4 l4.length c4, .slice a5 l5.length c5, .slice a6 l6.length c6, .slice a7 l7.length c7] g (74812 + 6 * k) B (((((((((([79, 49] ++ nameB nm) ++ wordB ky ++ [(l2.length : Int) % 256]) ++ l2.flatMap impB) ++ wordB vs ++ wordB l4.length) ++ l4 ++ wordB l5.length) ++ l5.flatMap wordB) ++ [(l6.length : Int) % 256]) ++ l6.flatMap wordB) ++ wordB l7.length) ++ (l7.take k).flatMap fixB)) (fun i _ => l7.length - (intOf i).toNat)
              case atStart => exact ⟨0, _, rfl, Nat.zero_le _, by rw [List.take_zero, List.flatMap_nil, List.append_nil]; exact HO22.out⟩
              case round =>
                obtain ⟨k, B, rfl, hk, hq⟩ := hrel
                have HOr := Lib.hid hq
                clear hq
                by_cases hlt : k < l7.length
                · obtain ⟨⟨pl, md, en⟩, hx⟩ := get_lt hlt
                  obtain ⟨rfl, hb⟩ := HAT7.out (by omega)
                  have HCO : Hid (∀ (q : Nat) (y : Value), ([.int .i64 pl, .int .i64 md, .int .i64 en] : List Value)[q]? = some y → wr.cell? ⟨b7, o7 + k * 3 + q, none⟩ = some y) := Lib.hid (fun q y hy => (HOr.out.wr'.bel.cell (p := ⟨b7, o7 + k * 3 + q, none⟩) hb).trans (HCELL7.out k _ hx q y hy))
                  have HX := Lib.hid hx
                  have HLT := Lib.hid hlt
                  obtain ⟨⟨p0, p1⟩, ⟨m0, m1⟩, ⟨e0, e1⟩⟩ := HF.out.fix _ (List.mem_of_getElem? hx)
                  dsimp only at p0 p1 m0 m1 e0 e1
                  have HPL : Hid (0 ≤ pl ∧ pl < 4294967296) := Lib.hid (by omega)
                  have HK7 : Hid (k < 8192) := Lib.hid (by have := HF.out.nfix; dsimp only at this; omega)
                  clear hx hb
                  have f1 : True := trivial
                  have f2 : True := trivial
                  have f3 : True := trivial
                  have f4 : True := trivial
                  have f5 : True := trivial
                  have f6 : True := trivial
                  go_wp2_with (first | (have _f := f1; refine wpList_load_mid rfl 51 (.tmp 115) rfl b7 (o7 + k * 3) rfl [.int .i64 pl, .int .i64 md, .int .i64 en] _ HCO.out Try.underlying51 rfl (by kernel_rfl) ?_; clear _f f1) | (have _f := f2; refine alloc_sep rfl 51 rfl (HSN.out _) (z := .agg #[.int .i64 0, .int .i64 0, .int .i64 0]) (cs := #[.int .i64 0, .int .i64 0, .int .i64 0]) (by kernel_rfl) rfl ?_; intro wc S' b' s'; have HSc := Lib.hid S'; have HBc := Lib.hid b'; clear S' b' s' _f f2) | (have _f := f3; refine store_sep (cells := #[.int .i64 pl, .int .i64 md, .int .i64 en]) rfl 51 (.tmp 12) (.tmp 116) rfl HSc.out 0 rfl rfl rfl (by kernel_rfl) rfl rfl ?_; intro we S' k' s'; have HXE := Lib.hid (S'.at 0 rfl); have HOe := Lib.hid (HOr.out.on (((Ke.below (· = wr.heap.size) HBc.out).trans k').toBelow (fun i hi e => absurd e (Nat.ne_of_lt hi)))); have HGX := Lib.hid (show wr.heap.size ≠ g from fun e => absurd HOr.out.wr'.box.lt (by omega)); have x0_e := (HXE.out.cell 0).trans (show _ = some (.int .i64 pl) from rfl); clear S' k' s' _f f3) | (have _f := f4; refine (wword_walk HOe.out.wr' (by have := HK7.out; omega) pl HPL.out).mono ?_; rintro e w5 ⟨rfl, hw⟩; obtain ⟨B5, hq, hkp⟩ := HOe.out.wrote hw; have HO5 := Lib.hid hq; have HX5 := Lib.hid (hkp _ _ _ HXE.out (by decide) HGX.out); have x1_5 := (HX5.out.cell 1).trans (show _ = some (.int .i64 md) from rfl); clear hw hq hkp x0_e _f f4) | (have _f := f5; refine (wbyte_walk HO5.out.wr' (by have := HK7.out; show 74812 + 6 * k + 4 ≤ 900000; omega) md).mono ?_; rintro e w6 ⟨rfl, hw⟩; obtain ⟨B6, hq, hkp⟩ := HO5.out.wrote hw; have HO6 := Lib.hid hq; have HX6 := Lib.hid (hkp _ _ _ HX5.out (by decide) HGX.out); have x2_6 := (HX6.out.cell 2).trans (show _ = some (.int .i64 en) from rfl); clear hw hq hkp x1_5 _f f5) | (have _f := f6; refine (wbyte_walk HO6.out.wr' (by have := HK7.out; show 74812 + 6 * k + 4 + 1 ≤ 900000; omega) en).mono ?_; rintro e w7 ⟨rfl, hw⟩; obtain ⟨B7, hq, hkp⟩ := HO6.out.wrote hw; have HO7 := Lib.hid hq; have HX7 := Lib.hid (hkp _ _ _ HX6.out (by decide) HGX.out); clear hw hq hkp x2_6 _f f6))
                  go_roundw
                  case rel =>
                    refine ⟨k + 1, B7, by go_num, HLT.out, ?_⟩
                    rw [show (((((((((([79, 49] ++ nameB nm) ++ wordB ky ++ [(l2.length : Int) % 256]) ++ l2.flatMap impB) ++ wordB vs ++ wordB l4.length) ++ l4 ++ wordB l5.length) ++ l5.flatMap wordB) ++ [(l6.length : Int) % 256]) ++ l6.flatMap wordB) ++ wordB l7.length) ++ (l7.take (k + 1)).flatMap fixB) = (((((((((([79, 49] ++ nameB nm) ++ wordB ky ++ [(l2.length : Int) % 256]) ++ l2.flatMap impB) ++ wordB vs ++ wordB l4.length) ++ l4 ++ wordB l5.length) ++ l5.flatMap wordB) ++ [(l6.length : Int) % 256]) ++ l6.flatMap wordB) ++ wordB l7.length) ++ (l7.take k).flatMap fixB) ++ wordB pl ++ [md % 256] ++ [en % 256] by rw [take_flat HX.out]; unfold fixB; rw [show ([md % 256, en % 256] : List Int) = [md % 256] ++ [en % 256] from rfl]; simp only [List.append_assoc]]
                    exact HO7.out.more (by rw [wordB_len]; show 74812 + 6 * k + 4 + 1 + 1 ≤ _; omega)
                  case measure => simp [intOf]; have := HLT.out; omega
                · have h4 := HOr.out
                  rw [take_all (by omega)] at h4
                  obtain ⟨XS, hXS⟩ : ∃ XS, OD.bytes ⟨nm, ky, l2, vs, l4, l5, l6, l7⟩ = XS := ⟨_, rfl⟩
                  have HXS := Lib.hid hXS
                  rw [show (((((((((([79, 49] ++ nameB nm) ++ wordB ky ++ [(l2.length : Int) % 256]) ++ l2.flatMap impB) ++ wordB vs ++ wordB l4.length) ++ l4 ++ wordB l5.length) ++ l5.flatMap wordB) ++ [(l6.length : Int) % 256]) ++ l6.flatMap wordB) ++ wordB l7.length) ++ l7.flatMap fixB) = XS from hXS] at h4
                  have HO23 := Lib.hid h4
                  clear h4 HOr hXS
                  have c0 := (HO23.out.wr'.box.cell 0).trans (show _ = some B from rfl)
                  obtain ⟨a, c, hB, hr⟩ := rdF HO23.out.wr'.own HO23.out.wr'.byte
                  have HRR := Lib.hid hr
                  subst hB
                  clear hr
                  go_wp2
                  go_ret2
                  refine ⟨a, c, ?_, ?_, HO23.out.wr'.bel⟩
                  · rw [HXS.out]; rfl
                  · rw [HXS.out]; exact HRR.out
end Go.Proofs.Yteagpjcflcahoaa
