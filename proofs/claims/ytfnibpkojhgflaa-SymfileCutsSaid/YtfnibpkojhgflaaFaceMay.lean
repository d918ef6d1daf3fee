/- Contract: may a face be (symfile.May). Printed by bin/gen_symmay.py. -/
import Derived.Test.YtfnibpkojhgflaaFaceMay0
import Derived.Carry
namespace Go.Proofs.Ytfnibpkojhgflaa
set_option linter.unusedVariables false
set_option linter.unusedSimpArgs false
open Go.RowKit
open Go.Maps (Keyed)

theorem key_str : Keyed Try.prog 9 := Go.Maps.string_keyed Try.underlying9
theorem key_u32 : Keyed Try.prog 39 := Go.Maps.int_keyed Try.underlying39
theorem zero_is (w : World) : (zeroValue 73).run Try.prog w = .ok (.agg #[.bool false]) w := by kernel_rfl
theorem wf_u32 {x : Int} (h : 0 ≤ x ∧ x < 4294967296) : (Lit.int .u32 x).wf = true := by
  have := bd_u32' h
  simpa [Lit.wf] using this

set_option maxRecDepth 100000 in
set_option maxHeartbeats 16000000 in
theorem may_walk (f : Fc) (w : World) (h : f.Rd w) :
    Calls Try.prog 10 #[f.val] w fun e' w' => e' = .returned (.bool (mayFace f.d)) ∧ Below w.heap.size w w' := by
  have HMT : Hid (f.types.l.length ≤ 1000 → ∀ (x : FT) (W : World), x ∈ f.types.l → Below w.heap.size w W → Calls Try.prog 24 #[f.val, .agg (ftD.cells x).toArray] W fun e' w' => e' = .returned (.bool (mayTypeB f.d.env x.d)) ∧ Below W.heap.size W w') := Lib.hid (fun hn x W hx k => mayType_walk f x W (h.bel k) (ftD.below (h.types.all x hx) k (Nat.le_refl _)) (by omega))
  have HMO : Hid (f.types.l.length ≤ 1000 → ∀ (x : FO) (W : World), x ∈ f.objs.l → Below w.heap.size w W → Calls Try.prog 25 #[f.val, .agg (foD.cells x).toArray] W fun e' w' => e' = .returned (.bool (mayObjB f.d.env x.d)) ∧ Below W.heap.size W w') := Lib.hid (fun hn x W hx k => mayObject_walk f x W (h.bel k) (foD.below (h.objs.all x hx) k (Nat.le_refl _)) (by omega))
  have i2 := h.types.len
  have i3 := h.objs.len
  obtain ⟨b2, o2, hat2, hcell2⟩ := h.types.at'
  obtain ⟨b3, o3, hat3, hcell3⟩ := h.objs.at'
  have HOK := Lib.hid h.objs.all
  have HAT2 := Lib.hid hat2
  have HAT3 := Lib.hid hat3
  have HC2 := Lib.hid hcell2
  have HC3 := Lib.hid hcell3
  have HNM := Lib.hid h.name
  have HIM := Lib.hid h.imps
  have HY1 : Hid (mayImps f.name f.imps.l = false → mayFace f.d = false) := Lib.hid (fun q => mf_imps q)
  have HY2 : Hid (¬ (f.types.l.length ≤ 200 ∧ f.objs.l.length ≤ 900) → mayFace f.d = false) := Lib.hid (fun q => mf_sizes (f := f.d) (by show ¬ ((f.types.l.map FT.d).length ≤ 200 ∧ (f.objs.l.map FO.d).length ≤ 900); rw [List.length_map, List.length_map]; exact q))
  have HY3 : Hid (∀ (k : Nat) (x : FT), f.types.l[k]? = some x → mayTypeB f.d.env x.d = false → mayFace f.d = false) := Lib.hid (fun k x hx q => mf_types (all_bad hx q))
  have HY4 : Hid (objsOk f.d.env [] (f.objs.l.map FO.d) = false → mayFace f.d = false) := Lib.hid (fun q => mf_objs q)
  have HY5 : Hid (mayImps f.name f.imps.l = true → f.types.l.length ≤ 200 ∧ f.objs.l.length ≤ 900 → (∀ (j : Nat) (x : FT), j < f.types.l.length → f.types.l[j]? = some x → mayTypeB f.d.env x.d = true) → objsOk f.d.env [] (f.objs.l.map FO.d) = true → mayFace f.d = true) := Lib.hid (fun q1 q2 q3 q4 => mf_yes q1 (by show (f.types.l.map FT.d).length ≤ 200 ∧ (f.objs.l.map FO.d).length ≤ 900; rw [List.length_map, List.length_map]; exact q2) (all_good q3) q4)
  clear h hat2 hat3 hcell2 hcell3
  obtain ⟨r, hr⟩ : ∃ r, r = mayFace f.d := ⟨_, rfl⟩
  obtain ⟨e, he⟩ : ∃ e, e = f.d.env := ⟨_, rfl⟩
  rw [← he] at HMT HMO HY3 HY4 HY5
  rw [← hr] at HY1 HY2 HY3 HY4 HY5 ⊢
  clear he hr
  obtain ⟨nm, ⟨a1, c1, l1⟩, ⟨a2, c2, l2⟩, ⟨a3, c3, l3⟩⟩ := f
  show Calls _ _ #[.agg #[.string nm, .slice a1 l1.length c1, .slice a2 l2.length c2, .slice a3 l3.length c3]] w _
  have HMT2 : Hid (l2.length ≤ 1000 → ∀ (x : FT) (W : World), x ∈ l2 → Below w.heap.size w W → Calls Try.prog 24 #[.agg #[.string nm, .slice a1 l1.length c1, .slice a2 l2.length c2, .slice a3 l3.length c3], .agg (ftD.cells x).toArray] W fun e' w' => e' = .returned (.bool (mayTypeB e x.d)) ∧ Below W.heap.size W w') := HMT
  have HMO2 : Hid (l2.length ≤ 1000 → ∀ (x : FO) (W : World), x ∈ l3 → Below w.heap.size w W → Calls Try.prog 25 #[.agg #[.string nm, .slice a1 l1.length c1, .slice a2 l2.length c2, .slice a3 l3.length c3], .agg (foD.cells x).toArray] W fun e' w' => e' = .returned (.bool (mayObjB e x.d)) ∧ Below W.heap.size W w') := HMO
  clear HMT HMO
  dsimp only at i2 i3 HAT2 HAT3 HC2 HC3 HNM HIM HY1 HY2 HY3 HY4 HY5 HOK
  have HB0 : Hid (Below w.heap.size w (((w.alloc (.cells #[.string nm, .slice a1 l1.length c1, .slice a2 l2.length c2, .slice a3 l3.length c3] 26)).alloc (.cells #[.int .u32 0] 39)).alloc (.cells #[.int .i64 0] 3))) := Lib.hid (bel3 w _ _ _)
  have HGF : Hid (At (((w.alloc (.cells #[.string nm, .slice a1 l1.length c1, .slice a2 l2.length c2, .slice a3 l3.length c3] 26)).alloc (.cells #[.int .u32 0] 39)).alloc (.cells #[.int .i64 0] 3)) w.heap.size #[.string nm, .slice a1 l1.length c1, .slice a2 l2.length c2, .slice a3 l3.length c3] 26) := Lib.hid (((At.new w #[.string nm, .slice a1 l1.length c1, .slice a2 l2.length c2, .slice a3 l3.length c3] 26).old _).old _)
  have HG1 : Hid (At (((w.alloc (.cells #[.string nm, .slice a1 l1.length c1, .slice a2 l2.length c2, .slice a3 l3.length c3] 26)).alloc (.cells #[.int .u32 0] 39)).alloc (.cells #[.int .i64 0] 3)) (w.heap.size + 1) #[.int .u32 0] 39) := Lib.hid (by have := (At.new (w.alloc (.cells #[.string nm, .slice a1 l1.length c1, .slice a2 l2.length c2, .slice a3 l3.length c3] 26)) #[.int .u32 0] 39).old (.cells #[.int .i64 0] 3); rwa [show (w.alloc (.cells #[.string nm, .slice a1 l1.length c1, .slice a2 l2.length c2, .slice a3 l3.length c3] 26)).heap.size = w.heap.size + 1 by simp] at this)
  have HG2 : Hid (At (((w.alloc (.cells #[.string nm, .slice a1 l1.length c1, .slice a2 l2.length c2, .slice a3 l3.length c3] 26)).alloc (.cells #[.int .u32 0] 39)).alloc (.cells #[.int .i64 0] 3)) (w.heap.size + 2) #[.int .i64 0] 3) := Lib.hid (by have := At.new ((w.alloc (.cells #[.string nm, .slice a1 l1.length c1, .slice a2 l2.length c2, .slice a3 l3.length c3] 26)).alloc (.cells #[.int .u32 0] 39)) #[.int .i64 0] 3; rwa [show ((w.alloc (.cells #[.string nm, .slice a1 l1.length c1, .slice a2 l2.length c2, .slice a3 l3.length c3] 26)).alloc (.cells #[.int .u32 0] 39)).heap.size = w.heap.size + 2 by simp] at this)
  have HOM : Hid (Calls Try.prog 23 #[.agg #[.string nm, .int .u32 0, .slice a1 l1.length c1, .int .i64 0, .slice none 0 0, .slice (some ⟨w.heap.size + 1, 0, none⟩) 1 1, .slice (some ⟨w.heap.size + 2, 0, none⟩) 1 1, .slice none 0 0]] (((w.alloc (.cells #[.string nm, .slice a1 l1.length c1, .slice a2 l2.length c2, .slice a3 l3.length c3] 26)).alloc (.cells #[.int .u32 0] 39)).alloc (.cells #[.int .i64 0] 3)) fun e' w' => e' = .returned (.bool (mayImps nm l1)) ∧ Below (((w.alloc (.cells #[.string nm, .slice a1 l1.length c1, .slice a2 l2.length c2, .slice a3 l3.length c3] 26)).alloc (.cells #[.int .u32 0] 39)).alloc (.cells #[.int .i64 0] 3)).heap.size (((w.alloc (.cells #[.string nm, .slice a1 l1.length c1, .slice a2 l2.length c2, .slice a3 l3.length c3] 26)).alloc (.cells #[.int .u32 0] 39)).alloc (.cells #[.int .i64 0] 3)) w') := Lib.hid (by
    have := omay_walk (⟨nm, 0, ⟨a1, c1, l1⟩, 0, Sl.none, ⟨some ⟨w.heap.size + 1, 0, none⟩, 1, [0]⟩, ⟨some ⟨w.heap.size + 2, 0, none⟩, 1, [0]⟩, Sl.none⟩ : Obj) (((w.alloc (.cells #[.string nm, .slice a1 l1.length c1, .slice a2 l2.length c2, .slice a3 l3.length c3] 26)).alloc (.cells #[.int .u32 0] 39)).alloc (.cells #[.int .i64 0] 3)) (bare_rd HNM.out (HIM.out.bel HB0.out) HG1.out HG2.out)
    rw [show mayObj ((⟨nm, 0, ⟨a1, c1, l1⟩, 0, Sl.none, ⟨some ⟨w.heap.size + 1, 0, none⟩, 1, [0]⟩, ⟨some ⟨w.heap.size + 2, 0, none⟩, 1, [0]⟩, Sl.none⟩ : Obj)).d = mayImps nm l1 from bare_may nm l1] at this
    exact this)
  have f1 : True := trivial
  have f2 : True := trivial
  have f3 : True := trivial
  have f4 : True := trivial
  have f5 : True := trivial
  have f6 : True := trivial
  have f7 : True := trivial
  have f8 : True := trivial
  have f9 : True := trivial
  have HSN := Lib.hid (fun w' : World => Sep.nil w')
  have hmm := @run_makeMap Try.prog
  cases hib : mayImps nm l1 with
  | false =>
    have HIB := Lib.hid hib
    have HV := Lib.hid (HY1.out hib)
    clear hib
    go_enter Try.func10, Try.ntmps10
    go_wp2_with (first | (have _f := f1; refine HOM.out.mono ?_; rw [HIB.out]; rintro e' w1 ⟨rfl, hb⟩; have HB1 := Lib.hid (bel_then HB0.out hb); have HGF1 := Lib.hid (HGF.out.bel hb); have g2 := (HGF1.out.cell 2).trans (show _ = some (.slice a2 l2.length c2) from rfl); have g3 := (HGF1.out.cell 3).trans (show _ = some (.slice a3 l3.length c3) from rfl); clear hb _f f1))
    go_ret
    rw [HV.out]
    exact ⟨rfl, HB1.out⟩
  | true =>
  have HIB := Lib.hid hib
  clear hib
  by_cases hs2 : 200 < (l2.length : Int)
  · have d2 : decide (200 < (l2.length : Int)) = true := decide_eq_true hs2
    have HV := Lib.hid (HY2.out (by omega))
    go_enter Try.func10, Try.ntmps10
    go_wp2_with (first | (have _f := f1; refine HOM.out.mono ?_; rw [HIB.out]; rintro e' w1 ⟨rfl, hb⟩; have HB1 := Lib.hid (bel_then HB0.out hb); have HGF1 := Lib.hid (HGF.out.bel hb); have g2 := (HGF1.out.cell 2).trans (show _ = some (.slice a2 l2.length c2) from rfl); have g3 := (HGF1.out.cell 3).trans (show _ = some (.slice a3 l3.length c3) from rfl); clear hb _f f1))
    go_ret
    rw [HV.out]
    exact ⟨rfl, HB1.out⟩
  have d2 : decide (200 < (l2.length : Int)) = false := decide_eq_false hs2
  by_cases hs3 : 900 < (l3.length : Int)
  · have d3 : decide (900 < (l3.length : Int)) = true := decide_eq_true hs3
    have HV := Lib.hid (HY2.out (by omega))
    go_enter Try.func10, Try.ntmps10
    go_wp2_with (first | (have _f := f1; refine HOM.out.mono ?_; rw [HIB.out]; rintro e' w1 ⟨rfl, hb⟩; have HB1 := Lib.hid (bel_then HB0.out hb); have HGF1 := Lib.hid (HGF.out.bel hb); have g2 := (HGF1.out.cell 2).trans (show _ = some (.slice a2 l2.length c2) from rfl); have g3 := (HGF1.out.cell 3).trans (show _ = some (.slice a3 l3.length c3) from rfl); clear hb _f f1))
    go_ret
    rw [HV.out]
    exact ⟨rfl, HB1.out⟩
  have d3 : decide (900 < (l3.length : Int)) = false := decide_eq_false hs3
  have HSZ : Hid (l2.length ≤ 200 ∧ l3.length ≤ 900) := Lib.hid (by omega)
  have HMT := Lib.hid (HMT2.out (by omega))
  have HMO := Lib.hid (HMO2.out (by omega))
  clear hs2 hs3 HMT2 HMO2
  go_enter Try.func10, Try.ntmps10
  go_wp2_with (first | (have _f := f1; refine HOM.out.mono ?_; rw [HIB.out]; rintro e' w1 ⟨rfl, hb⟩; have HB1 := Lib.hid (bel_then HB0.out hb); have HGF1 := Lib.hid (HGF.out.bel hb); have g2 := (HGF1.out.cell 2).trans (show _ = some (.slice a2 l2.length c2) from rfl); have g3 := (HGF1.out.cell 3).trans (show _ = some (.slice a3 l3.length c3) from rfl); clear hb _f f1))
  clear d2 d3 g2 g3
  go_loopw [34] (fun i wr => ∃ k : Nat, i = .int .i64 k ∧ k ≤ l2.length ∧ (∀ (j : Nat) (x : FT), j < k → l2[j]? = some x → mayTypeB e x.d = true) ∧ Below w1.heap.size w1 wr) (fun i _ => l2.length - (intOf i).toNat)
  case atStart => exact ⟨0, rfl, Nat.zero_le _, fun j x h => by omega, Below.refl _ _⟩
  case round =>
    obtain ⟨k, rfl, hk, hj, hb⟩ := hrel
    have HJ := Lib.hid hj
    have HBr := Lib.hid (bel_then HB1.out hb)
    have HBk := Lib.hid hb
    have HGr := Lib.hid (HGF1.out.bel hb)
    clear hj hb
    by_cases hlt : k < l2.length
    · obtain ⟨⟨fo, le, si, ⟨bm, bi⟩, ⟨fa, fcc, fl⟩⟩, hx⟩ := get_lt hlt
      have HX := Lib.hid hx
      have HLT := Lib.hid hlt
      obtain ⟨rfl, hb⟩ := HAT2.out (by omega)
      have HCO : Hid (∀ (q : Nat) (y : Value), ([.int .i64 fo, .int .i64 le, .int .i64 si, .int .i64 bm, .int .i64 bi, .slice fa fl.length fcc] : List Value)[q]? = some y → wr.cell? ⟨b2, o2 + k * 6 + q, none⟩ = some y) := Lib.hid (fun q y hy => (HBr.out.cell (p := ⟨b2, o2 + k * 6 + q, none⟩) hb).trans (HC2.out k _ hx q y hy))
      have HMX : Hid (∀ W, Below w.heap.size w W → Calls Try.prog 24 #[.agg #[.string nm, .slice a1 l1.length c1, .slice (some ⟨b2, o2, none⟩) l2.length c2, .slice a3 l3.length c3], .agg #[.int .i64 fo, .int .i64 le, .int .i64 si, .int .i64 bm, .int .i64 bi, .slice fa fl.length fcc]] W fun e' w' => e' = .returned (.bool (mayTypeB e ⟨fo, le, si, ⟨bm, bi⟩, fl⟩)) ∧ Below W.heap.size W w') := Lib.hid (fun W kk => HMT.out ⟨fo, le, si, ⟨bm, bi⟩, ⟨fa, fcc, fl⟩⟩ W (List.mem_of_getElem? hx) kk)
      clear hx hb
      cases htb : mayTypeB e ⟨fo, le, si, ⟨bm, bi⟩, fl⟩ with
      | false =>
        have HTB := Lib.hid htb
        have HV := Lib.hid (HY3.out k _ HX.out htb)
        clear htb
        go_wp2_with (first | (have _f := f2; refine wpList_load_mid rfl 34 (.tmp 36) rfl b2 (o2 + k * 6) rfl [.int .i64 fo, .int .i64 le, .int .i64 si, .int .i64 bm, .int .i64 bi, .slice fa fl.length fcc] _ HCO.out Try.underlying34 rfl (by kernel_rfl) ?_; clear _f f2) | (have _f := f3; refine alloc_sep rfl 34 rfl (HSN.out _) (z := .agg #[.int .i64 0, .int .i64 0, .int .i64 0, .int .i64 0, .int .i64 0, .slice none 0 0]) (cs := #[.int .i64 0, .int .i64 0, .int .i64 0, .int .i64 0, .int .i64 0, .slice none 0 0]) (by kernel_rfl) rfl ?_; intro wc S' b' s'; have HSc := Lib.hid S'; have HBc := Lib.hid b'; clear S' b' s' _f f3) | (have _f := f4; refine store_sep (cells := #[.int .i64 fo, .int .i64 le, .int .i64 si, .int .i64 bm, .int .i64 bi, .slice fa fl.length fcc]) rfl 34 (.tmp 4) (.tmp 37) rfl HSc.out 0 rfl rfl rfl (by kernel_rfl) rfl rfl ?_; intro we S' k' s'; have HAe : Hid (At we wr.heap.size #[.int .i64 fo, .int .i64 le, .int .i64 si, .int .i64 bm, .int .i64 bi, .slice fa fl.length fcc] 34) := Lib.hid (S'.at 0 rfl); have HBe : Hid (Below wr.heap.size wr we) := Lib.hid (((Ke.below (· = wr.heap.size) HBc.out).trans k').toBelow (fun i hi e => absurd e (Nat.ne_of_lt hi))); have HBWe := Lib.hid (bel_then HBr.out HBe.out); have HGe := Lib.hid (HGr.out.bel HBe.out); clear S' k' s' _f f4) | (have _f := f5; refine load_sep (cs := #[.string nm, .slice a1 l1.length c1, .slice (some ⟨b2, o2, none⟩) l2.length c2, .slice a3 l3.length c3]) rfl 26 (.tmp 1) rfl (Sep.one HGe.out) 0 rfl rfl Try.underlying26 rfl (by kernel_rfl) ?_; clear _f f5) | (have _f := f6; refine load_sep (cs := #[.int .i64 fo, .int .i64 le, .int .i64 si, .int .i64 bm, .int .i64 bi, .slice fa fl.length fcc]) rfl 34 (.tmp 4) rfl (Sep.one HAe.out) 0 rfl rfl Try.underlying34 rfl (by kernel_rfl) ?_; clear _f f6) | (have _f := f7; refine (HMX.out _ HBWe.out).mono ?_; rw [HTB.out]; rintro e' w2 ⟨rfl, hb⟩; have HB2 := Lib.hid (bel_then HBe.out hb); clear hb _f f7))
        go_ret
        rw [HV.out]
        exact ⟨rfl, bel_then HBr.out HB2.out⟩
      | true =>
        have HTB := Lib.hid htb
        clear htb
        go_wp2_with (first | (have _f := f2; refine wpList_load_mid rfl 34 (.tmp 36) rfl b2 (o2 + k * 6) rfl [.int .i64 fo, .int .i64 le, .int .i64 si, .int .i64 bm, .int .i64 bi, .slice fa fl.length fcc] _ HCO.out Try.underlying34 rfl (by kernel_rfl) ?_; clear _f f2) | (have _f := f3; refine alloc_sep rfl 34 rfl (HSN.out _) (z := .agg #[.int .i64 0, .int .i64 0, .int .i64 0, .int .i64 0, .int .i64 0, .slice none 0 0]) (cs := #[.int .i64 0, .int .i64 0, .int .i64 0, .int .i64 0, .int .i64 0, .slice none 0 0]) (by kernel_rfl) rfl ?_; intro wc S' b' s'; have HSc := Lib.hid S'; have HBc := Lib.hid b'; clear S' b' s' _f f3) | (have _f := f4; refine store_sep (cells := #[.int .i64 fo, .int .i64 le, .int .i64 si, .int .i64 bm, .int .i64 bi, .slice fa fl.length fcc]) rfl 34 (.tmp 4) (.tmp 37) rfl HSc.out 0 rfl rfl rfl (by kernel_rfl) rfl rfl ?_; intro we S' k' s'; have HAe : Hid (At we wr.heap.size #[.int .i64 fo, .int .i64 le, .int .i64 si, .int .i64 bm, .int .i64 bi, .slice fa fl.length fcc] 34) := Lib.hid (S'.at 0 rfl); have HBe : Hid (Below wr.heap.size wr we) := Lib.hid (((Ke.below (· = wr.heap.size) HBc.out).trans k').toBelow (fun i hi e => absurd e (Nat.ne_of_lt hi))); have HBWe := Lib.hid (bel_then HBr.out HBe.out); have HGe := Lib.hid (HGr.out.bel HBe.out); clear S' k' s' _f f4) | (have _f := f5; refine load_sep (cs := #[.string nm, .slice a1 l1.length c1, .slice (some ⟨b2, o2, none⟩) l2.length c2, .slice a3 l3.length c3]) rfl 26 (.tmp 1) rfl (Sep.one HGe.out) 0 rfl rfl Try.underlying26 rfl (by kernel_rfl) ?_; clear _f f5) | (have _f := f6; refine load_sep (cs := #[.int .i64 fo, .int .i64 le, .int .i64 si, .int .i64 bm, .int .i64 bi, .slice fa fl.length fcc]) rfl 34 (.tmp 4) rfl (Sep.one HAe.out) 0 rfl rfl Try.underlying34 rfl (by kernel_rfl) ?_; clear _f f6) | (have _f := f7; refine (HMX.out _ HBWe.out).mono ?_; rw [HTB.out]; rintro e' w2 ⟨rfl, hb⟩; have HB2 := Lib.hid (bel_then HBe.out hb); clear hb _f f7))
        go_roundw
        case rel =>
          refine ⟨k + 1, by go_num, HLT.out, fun j x hj hx => ?_, bel_then HBk.out HB2.out⟩
          rcases Nat.lt_or_ge j k with h | h
          · exact HJ.out j x h hx
          · obtain rfl : j = k := by omega
            rw [HX.out] at hx
            obtain rfl := Option.some.inj hx
            exact HTB.out
        case measure => simp [intOf]; have := HLT.out; omega
    · obtain rfl : k = l2.length := by omega
      have HJT : Hid (∀ (j : Nat) (x : FT), j < l2.length → l2[j]? = some x → mayTypeB e x.d = true) := HJ
      clear HJ hk
      have g3 := (HGr.out.cell 3).trans (show _ = some (.slice a3 l3.length c3) from rfl)
      clear g3
      have g3 := ((HGr.out.bel (bel2 wr (.map #[] 0) (.map #[] 0))).cell 3).trans (show _ = some (.slice a3 l3.length c3) from rfl)
      have HBm : Hid (Below w.heap.size w ((wr.alloc (.map #[] 0)).alloc (.map #[] 0))) := Lib.hid (bel_then HBr.out (bel2 wr _ _))
      have HGm := Lib.hid (HGr.out.bel (bel2 wr (.map #[] 0) (.map #[] 0)))
      have HS1 : Hid (SetMap ((wr.alloc (.map #[] 0)).alloc (.map #[] 0)) Try.prog 9 wr.heap.size 0 (NamesTo l3 0)) := Lib.hid (((SetMap.made wr Try.prog 9).bel (bel1 _ _)).iff (fun z => ⟨fun h => h.elim, fun h => (NamesTo.zero l3 z h).elim⟩))
      have HS2 : Hid (SetMap ((wr.alloc (.map #[] 0)).alloc (.map #[] 0)) Try.prog 39 (wr.heap.size + 1) 0 (ProcsTo l3 0)) := Lib.hid (by have := (SetMap.made (wr.alloc (.map #[] 0)) Try.prog 39).iff (Q' := ProcsTo l3 0) (fun z => ⟨fun h => h.elim, fun h => (ProcsTo.zero l3 z h).elim⟩); rwa [show (wr.alloc (.map #[] 0)).heap.size = wr.heap.size + 1 by simp] at this)
      have hlw : w.heap.size ≤ wr.heap.size := HBr.out.size
      have hgw := HGr.out.lt
      have HLW : Hid (w.heap.size < wr.heap.size) := Lib.hid hgw
      clear hlw hgw HBk HGr
      go_wp2_with fail
      clear g3
      obtain ⟨wt, hwt⟩ : ∃ x, x = wr := ⟨_, rfl⟩
      subst hwt
      go_loopw [9, 48] (fun _ i wr => ∃ k : Nat, i = .int .i64 k ∧ k ≤ l3.length ∧ ObjTo e l3 k ∧ SetMap wr Try.prog 9 wt.heap.size k (NamesTo l3 k) ∧ SetMap wr Try.prog 39 (wt.heap.size + 1) k (ProcsTo l3 k) ∧ Ke (fun i => i = wt.heap.size ∨ i = wt.heap.size + 1) ((wt.alloc (.map #[] 0)).alloc (.map #[] 0)) wr) (fun _ i _ => l3.length - (intOf i).toNat)
      case atStart => exact ⟨0, rfl, Nat.zero_le _, ObjTo.start e l3, HS1.out, HS2.out, Ke.refl _ _⟩
      case round =>
        obtain ⟨k, rfl, hk, hj, hs1, hs2, hke⟩ := hrel
        have HJ := Lib.hid hj
        have HM1 := Lib.hid hs1
        have HM2 := Lib.hid hs2
        have HKE := Lib.hid hke
        have HBq : Hid (Below w.heap.size w wr) := Lib.hid (HBm.out.trans (bel_ke hke (fun i hi => by have := HLW.out; rcases hi with rfl | rfl <;> omega) HBm.out.size))
        have HGq : Hid (At wr w.heap.size #[.string nm, .slice a1 l1.length c1, .slice a2 l2.length c2, .slice a3 l3.length c3] 26) := Lib.hid (HGm.out.ke hke (by have := HLW.out; omega))
        clear hj hs1 hs2 hke
        by_cases hlt : k < l3.length
        · obtain ⟨⟨cl, on, ⟨bm, bi⟩, va, ⟨pa, pc, pl⟩⟩, hx⟩ := get_lt hlt
          have HX := Lib.hid hx
          have HLT := Lib.hid hlt
          obtain ⟨rfl, hb⟩ := HAT3.out (by omega)
          have HCO : Hid (∀ (q : Nat) (y : Value), ([.int .i64 cl, .string on, .int .i64 bm, .int .i64 bi, .int .u32 va, .slice pa pl.length pc] : List Value)[q]? = some y → wr.cell? ⟨b3, o3 + k * 6 + q, none⟩ = some y) := Lib.hid (fun q y hy => (HBq.out.cell (p := ⟨b3, o3 + k * 6 + q, none⟩) hb).trans (HC3.out k _ hx q y hy))
          have HMX : Hid (∀ W, Below w.heap.size w W → Calls Try.prog 25 #[.agg #[.string nm, .slice a1 l1.length c1, .slice a2 l2.length c2, .slice (some ⟨b3, o3, none⟩) l3.length c3], .agg #[.int .i64 cl, .string on, .int .i64 bm, .int .i64 bi, .int .u32 va, .slice pa pl.length pc]] W fun e' w' => e' = .returned (.bool (mayObjB e ⟨cl, on, ⟨bm, bi⟩, va, pl⟩)) ∧ Below W.heap.size W w') := Lib.hid (fun W kk => HMO.out ⟨cl, on, ⟨bm, bi⟩, va, ⟨pa, pc, pl⟩⟩ W (List.mem_of_getElem? hx) kk)
          have hok := HOK.out _ (List.mem_of_getElem? hx)
          have HK1 : Hid (keyOf Try.prog 9 (.string on) = some (.string on.data.toList)) := Lib.hid (Go.WideMaps.keyOf_string_mk Try.underlying9 hok.2.1)
          have HK2 : Hid (keyOf Try.prog 39 (.int .u32 va) = some (.int .u32 va)) := Lib.hid (Go.Maps.keyOf_int_mk Try.underlying39 (wf_u32 hok.2.2.2.1))
          obtain ⟨⟨q1, q1'⟩, q2, ⟨⟨q3, q3'⟩, q4, q4'⟩, ⟨q5, q5'⟩, q6⟩ := hok
          dsimp only at q1 q1' q3 q3' q4 q4' q5 q5'
          have hfd : ∀ (b : Bool) (w : World), (Instr.field 73 (.agg #[.bool b]) 0).run Try.prog w = .ok (.bool b) w := fun b w => by kernel_rfl
          have HKM : Hid (k < maxLen) := Lib.hid (by have := HSZ.out; unfold maxLen; omega)
          clear hx hb q6 q2
          have HNE : Hid (¬ wr.heap.size = wt.heap.size ∧ ¬ wr.heap.size = wt.heap.size + 1) := Lib.hid (by have := HM1.out.lt; have := HM2.out.lt; omega)
          cases htb : mayObjB e ⟨cl, on, ⟨bm, bi⟩, va, pl⟩ with
          | false =>
            have HTB := Lib.hid htb
            have HV := Lib.hid (HY4.out (HJ.out.bad HX.out htb))
            clear htb
            go_wp2_with (first | (have _f := f2; refine wpList_load_mid rfl 42 (.tmp 50) rfl b3 (o3 + k * 6) rfl [.int .i64 cl, .string on, .int .i64 bm, .int .i64 bi, .int .u32 va, .slice pa pl.length pc] _ HCO.out Try.underlying42 rfl (by kernel_rfl) ?_; clear _f f2) | (have _f := f3; refine alloc_sep rfl 42 rfl (HSN.out _) (z := .agg #[.int .i64 0, .string ⟨#[]⟩, .int .i64 0, .int .i64 0, .int .u32 0, .slice none 0 0]) (cs := #[.int .i64 0, .string ⟨#[]⟩, .int .i64 0, .int .i64 0, .int .u32 0, .slice none 0 0]) (by kernel_rfl) rfl ?_; intro wc S' b' s'; have HSc := Lib.hid S'; have HBc := Lib.hid b'; clear S' b' s' _f f3) | (have _f := f4; refine store_sep (cells := #[.int .i64 cl, .string on, .int .i64 bm, .int .i64 bi, .int .u32 va, .slice pa pl.length pc]) rfl 42 (.tmp 8) (.tmp 51) rfl HSc.out 0 rfl rfl rfl (by kernel_rfl) rfl rfl ?_; intro we S' k' s'; have HAe : Hid (At we wr.heap.size #[.int .i64 cl, .string on, .int .i64 bm, .int .i64 bi, .int .u32 va, .slice pa pl.length pc] 42) := Lib.hid (S'.at 0 rfl); have HBe : Hid (Below wr.heap.size wr we) := Lib.hid (((Ke.below (· = wr.heap.size) HBc.out).trans k').toBelow (fun i hi e => absurd e (Nat.ne_of_lt hi))); have HBWe := Lib.hid (bel_then HBq.out HBe.out); have HGe := Lib.hid (HGq.out.bel HBe.out); have y0 := (HAe.out.cell 0).trans (show _ = some (.int .i64 cl) from rfl); clear S' k' s' _f f4) | (have _f := f5; refine load_sep (cs := #[.string nm, .slice a1 l1.length c1, .slice a2 l2.length c2, .slice (some ⟨b3, o3, none⟩) l3.length c3]) rfl 26 (.tmp 1) rfl (Sep.one HGe.out) 0 rfl rfl Try.underlying26 rfl (by kernel_rfl) ?_; clear _f f5) | (have _f := f6; refine load_sep (cs := #[.int .i64 cl, .string on, .int .i64 bm, .int .i64 bi, .int .u32 va, .slice pa pl.length pc]) rfl 42 (.tmp 8) rfl (Sep.one HAe.out) 0 rfl rfl Try.underlying42 rfl (by kernel_rfl) ?_; clear _f f6) | (have _f := f7; refine (HMX.out _ HBWe.out).mono ?_; rw [HTB.out]; rintro e' w2 ⟨rfl, hb⟩; have HB2 := Lib.hid (bel_then HBe.out hb); have HAf := Lib.hid (HAe.out.bel hb); have y1 := (HAf.out.cell 1).trans (show _ = some (.string on) from rfl); have y4 := (HAf.out.cell 4).trans (show _ = some (.int .u32 va) from rfl); have HM1f := Lib.hid (HM1.out.bel HB2.out); have HM2f := Lib.hid (HM2.out.bel HB2.out); have lk1 := HM1f.out.look key_str Try.underlying70 (zero_is _) HK1.out; have lk2 := HM2f.out.look key_u32 Try.underlying71 (zero_is _) HK2.out; clear lk1 lk2; clear hb y0 _f f7))
            go_ret
            rw [HV.out]
            exact ⟨rfl, bel_then HBq.out HB2.out⟩
          | true =>
            have HTB := Lib.hid htb
            clear htb
            by_cases hn : NamesTo l3 k (.string on.data.toList)
            · have HN := Lib.hid (boolOf_yes hn)
              have HV := Lib.hid (HY4.out (HJ.out.twice HX.out (clash_iff.2 (.inl hn))))
              clear hn
              go_wp2_with (first | (have _f := f2; refine wpList_load_mid rfl 42 (.tmp 50) rfl b3 (o3 + k * 6) rfl [.int .i64 cl, .string on, .int .i64 bm, .int .i64 bi, .int .u32 va, .slice pa pl.length pc] _ HCO.out Try.underlying42 rfl (by kernel_rfl) ?_; clear _f f2) | (have _f := f3; refine alloc_sep rfl 42 rfl (HSN.out _) (z := .agg #[.int .i64 0, .string ⟨#[]⟩, .int .i64 0, .int .i64 0, .int .u32 0, .slice none 0 0]) (cs := #[.int .i64 0, .string ⟨#[]⟩, .int .i64 0, .int .i64 0, .int .u32 0, .slice none 0 0]) (by kernel_rfl) rfl ?_; intro wc S' b' s'; have HSc := Lib.hid S'; have HBc := Lib.hid b'; clear S' b' s' _f f3) | (have _f := f4; refine store_sep (cells := #[.int .i64 cl, .string on, .int .i64 bm, .int .i64 bi, .int .u32 va, .slice pa pl.length pc]) rfl 42 (.tmp 8) (.tmp 51) rfl HSc.out 0 rfl rfl rfl (by kernel_rfl) rfl rfl ?_; intro we S' k' s'; have HAe : Hid (At we wr.heap.size #[.int .i64 cl, .string on, .int .i64 bm, .int .i64 bi, .int .u32 va, .slice pa pl.length pc] 42) := Lib.hid (S'.at 0 rfl); have HBe : Hid (Below wr.heap.size wr we) := Lib.hid (((Ke.below (· = wr.heap.size) HBc.out).trans k').toBelow (fun i hi e => absurd e (Nat.ne_of_lt hi))); have HBWe := Lib.hid (bel_then HBq.out HBe.out); have HGe := Lib.hid (HGq.out.bel HBe.out); have y0 := (HAe.out.cell 0).trans (show _ = some (.int .i64 cl) from rfl); clear S' k' s' _f f4) | (have _f := f5; refine load_sep (cs := #[.string nm, .slice a1 l1.length c1, .slice a2 l2.length c2, .slice (some ⟨b3, o3, none⟩) l3.length c3]) rfl 26 (.tmp 1) rfl (Sep.one HGe.out) 0 rfl rfl Try.underlying26 rfl (by kernel_rfl) ?_; clear _f f5) | (have _f := f6; refine load_sep (cs := #[.int .i64 cl, .string on, .int .i64 bm, .int .i64 bi, .int .u32 va, .slice pa pl.length pc]) rfl 42 (.tmp 8) rfl (Sep.one HAe.out) 0 rfl rfl Try.underlying42 rfl (by kernel_rfl) ?_; clear _f f6) | (have _f := f7; refine (HMX.out _ HBWe.out).mono ?_; rw [HTB.out]; rintro e' w2 ⟨rfl, hb⟩; have HB2 := Lib.hid (bel_then HBe.out hb); have HAf := Lib.hid (HAe.out.bel hb); have y1 := (HAf.out.cell 1).trans (show _ = some (.string on) from rfl); have y4 := (HAf.out.cell 4).trans (show _ = some (.int .u32 va) from rfl); have HM1f := Lib.hid (HM1.out.bel HB2.out); have HM2f := Lib.hid (HM2.out.bel HB2.out); have lk1 := HM1f.out.look key_str Try.underlying70 (zero_is _) HK1.out; have lk2 := HM2f.out.look key_u32 Try.underlying71 (zero_is _) HK2.out; rw [HN.out] at lk1; clear lk2; clear hb y0 _f f7))
              go_ret
              rw [HV.out]
              exact ⟨rfl, bel_then HBq.out HB2.out⟩
            have HN := Lib.hid (boolOf_no hn)
            by_cases hc : cl = 4
            · have e4 : (cl == 4) = true := by rw [hc]; rfl
              by_cases hp : ProcsTo l3 k (.int .u32 va)
              · have HP := Lib.hid (boolOf_yes hp)
                have HV := Lib.hid (HY4.out (HJ.out.twice HX.out (clash_iff.2 (.inr ⟨hc, hp⟩))))
                clear hn hc hp
                go_wp2_with (first | (have _f := f2; refine wpList_load_mid rfl 42 (.tmp 50) rfl b3 (o3 + k * 6) rfl [.int .i64 cl, .string on, .int .i64 bm, .int .i64 bi, .int .u32 va, .slice pa pl.length pc] _ HCO.out Try.underlying42 rfl (by kernel_rfl) ?_; clear _f f2) | (have _f := f3; refine alloc_sep rfl 42 rfl (HSN.out _) (z := .agg #[.int .i64 0, .string ⟨#[]⟩, .int .i64 0, .int .i64 0, .int .u32 0, .slice none 0 0]) (cs := #[.int .i64 0, .string ⟨#[]⟩, .int .i64 0, .int .i64 0, .int .u32 0, .slice none 0 0]) (by kernel_rfl) rfl ?_; intro wc S' b' s'; have HSc := Lib.hid S'; have HBc := Lib.hid b'; clear S' b' s' _f f3) | (have _f := f4; refine store_sep (cells := #[.int .i64 cl, .string on, .int .i64 bm, .int .i64 bi, .int .u32 va, .slice pa pl.length pc]) rfl 42 (.tmp 8) (.tmp 51) rfl HSc.out 0 rfl rfl rfl (by kernel_rfl) rfl rfl ?_; intro we S' k' s'; have HAe : Hid (At we wr.heap.size #[.int .i64 cl, .string on, .int .i64 bm, .int .i64 bi, .int .u32 va, .slice pa pl.length pc] 42) := Lib.hid (S'.at 0 rfl); have HBe : Hid (Below wr.heap.size wr we) := Lib.hid (((Ke.below (· = wr.heap.size) HBc.out).trans k').toBelow (fun i hi e => absurd e (Nat.ne_of_lt hi))); have HBWe := Lib.hid (bel_then HBq.out HBe.out); have HGe := Lib.hid (HGq.out.bel HBe.out); have y0 := (HAe.out.cell 0).trans (show _ = some (.int .i64 cl) from rfl); clear S' k' s' _f f4) | (have _f := f5; refine load_sep (cs := #[.string nm, .slice a1 l1.length c1, .slice a2 l2.length c2, .slice (some ⟨b3, o3, none⟩) l3.length c3]) rfl 26 (.tmp 1) rfl (Sep.one HGe.out) 0 rfl rfl Try.underlying26 rfl (by kernel_rfl) ?_; clear _f f5) | (have _f := f6; refine load_sep (cs := #[.int .i64 cl, .string on, .int .i64 bm, .int .i64 bi, .int .u32 va, .slice pa pl.length pc]) rfl 42 (.tmp 8) rfl (Sep.one HAe.out) 0 rfl rfl Try.underlying42 rfl (by kernel_rfl) ?_; clear _f f6) | (have _f := f7; refine (HMX.out _ HBWe.out).mono ?_; rw [HTB.out]; rintro e' w2 ⟨rfl, hb⟩; have HB2 := Lib.hid (bel_then HBe.out hb); have HAf := Lib.hid (HAe.out.bel hb); have y1 := (HAf.out.cell 1).trans (show _ = some (.string on) from rfl); have y4 := (HAf.out.cell 4).trans (show _ = some (.int .u32 va) from rfl); have HM1f := Lib.hid (HM1.out.bel HB2.out); have HM2f := Lib.hid (HM2.out.bel HB2.out); have lk1 := HM1f.out.look key_str Try.underlying70 (zero_is _) HK1.out; have lk2 := HM2f.out.look key_u32 Try.underlying71 (zero_is _) HK2.out; rw [HN.out] at lk1; rw [HP.out] at lk2; clear hb y0 _f f7))
                go_ret
                rw [HV.out]
                exact ⟨rfl, bel_then HBq.out HB2.out⟩
              have HP := Lib.hid (boolOf_no hp)
              have HNX : Hid (ObjTo e l3 (k + 1)) := Lib.hid (HJ.out.next HX.out HTB.out (by rw [Bool.eq_false_iff]; intro q; rcases clash_iff.1 q with q | q; exact hn q; exact hp q.2))
              have HC4 := Lib.hid hc
              clear hn hc hp
              go_wp2_with (first | (have _f := f2; refine wpList_load_mid rfl 42 (.tmp 50) rfl b3 (o3 + k * 6) rfl [.int .i64 cl, .string on, .int .i64 bm, .int .i64 bi, .int .u32 va, .slice pa pl.length pc] _ HCO.out Try.underlying42 rfl (by kernel_rfl) ?_; clear _f f2) | (have _f := f3; refine alloc_sep rfl 42 rfl (HSN.out _) (z := .agg #[.int .i64 0, .string ⟨#[]⟩, .int .i64 0, .int .i64 0, .int .u32 0, .slice none 0 0]) (cs := #[.int .i64 0, .string ⟨#[]⟩, .int .i64 0, .int .i64 0, .int .u32 0, .slice none 0 0]) (by kernel_rfl) rfl ?_; intro wc S' b' s'; have HSc := Lib.hid S'; have HBc := Lib.hid b'; clear S' b' s' _f f3) | (have _f := f4; refine store_sep (cells := #[.int .i64 cl, .string on, .int .i64 bm, .int .i64 bi, .int .u32 va, .slice pa pl.length pc]) rfl 42 (.tmp 8) (.tmp 51) rfl HSc.out 0 rfl rfl rfl (by kernel_rfl) rfl rfl ?_; intro we S' k' s'; have HAe : Hid (At we wr.heap.size #[.int .i64 cl, .string on, .int .i64 bm, .int .i64 bi, .int .u32 va, .slice pa pl.length pc] 42) := Lib.hid (S'.at 0 rfl); have HBe : Hid (Below wr.heap.size wr we) := Lib.hid (((Ke.below (· = wr.heap.size) HBc.out).trans k').toBelow (fun i hi e => absurd e (Nat.ne_of_lt hi))); have HBWe := Lib.hid (bel_then HBq.out HBe.out); have HGe := Lib.hid (HGq.out.bel HBe.out); have y0 := (HAe.out.cell 0).trans (show _ = some (.int .i64 cl) from rfl); clear S' k' s' _f f4) | (have _f := f5; refine load_sep (cs := #[.string nm, .slice a1 l1.length c1, .slice a2 l2.length c2, .slice (some ⟨b3, o3, none⟩) l3.length c3]) rfl 26 (.tmp 1) rfl (Sep.one HGe.out) 0 rfl rfl Try.underlying26 rfl (by kernel_rfl) ?_; clear _f f5) | (have _f := f6; refine load_sep (cs := #[.int .i64 cl, .string on, .int .i64 bm, .int .i64 bi, .int .u32 va, .slice pa pl.length pc]) rfl 42 (.tmp 8) rfl (Sep.one HAe.out) 0 rfl rfl Try.underlying42 rfl (by kernel_rfl) ?_; clear _f f6) | (have _f := f7; refine (HMX.out _ HBWe.out).mono ?_; rw [HTB.out]; rintro e' w2 ⟨rfl, hb⟩; have HB2 := Lib.hid (bel_then HBe.out hb); have HAf := Lib.hid (HAe.out.bel hb); have y1 := (HAf.out.cell 1).trans (show _ = some (.string on) from rfl); have y4 := (HAf.out.cell 4).trans (show _ = some (.int .u32 va) from rfl); have HM1f := Lib.hid (HM1.out.bel HB2.out); have HM2f := Lib.hid (HM2.out.bel HB2.out); have lk1 := HM1f.out.look key_str Try.underlying70 (zero_is _) HK1.out; have lk2 := HM2f.out.look key_u32 Try.underlying71 (zero_is _) HK2.out; rw [HN.out] at lk1; rw [HP.out] at lk2; clear hb y0 _f f7) | (have _f := f8; refine wpList_set rfl (.tmp 76) (.tmp 78) (.tmp 79) 70 rfl HM1f.out key_str Try.underlying70 HKM.out rfl rfl HK1.out rfl (NamesTo l3 (k + 1)) ⟨fun _ => rfl, fun _ => names_new HX.out⟩ (fun z hz => names_old HX.out z hz) ?_; intro w3 hm hkk; have HM1g := Lib.hid hm; have HKg := Lib.hid hkk; have HM2g := Lib.hid (HM2f.out.ke hkk (by omega)); have HAg : Hid (At w3 wr.heap.size #[.int .i64 cl, .string on, .int .i64 bm, .int .i64 bi, .int .u32 va, .slice pa pl.length pc] 42) := Lib.hid (HAf.out.ke hkk HNE.out.1); have y4 := (HAg.out.cell 4).trans (show _ = some (.int .u32 va) from rfl); have lk2 := HM2g.out.look key_u32 Try.underlying71 (zero_is _) HK2.out; rw [HP.out] at lk2; clear hm hkk _f f8) | (have _f := f9; refine wpList_set rfl (.tmp 80) (.tmp 82) (.tmp 91) 71 rfl HM2g.out key_u32 Try.underlying71 HKM.out rfl rfl HK2.out rfl (ProcsTo l3 (k + 1)) ⟨fun _ => rfl, fun _ => procs_new HX.out HC4.out⟩ (fun z hz => procs_old HX.out z (.inr hz)) ?_; intro w4 hm hkk; have HM2h := Lib.hid hm; have HKh := Lib.hid hkk; have HM1h := Lib.hid (HM1g.out.ke hkk (by omega)); clear hm hkk _f f9))
              go_roundw
              case rel =>
                refine ⟨k + 1, by go_num, HLT.out, HNX.out, HM1h.out, HM2h.out, ?_⟩
                have k1 : Ke (fun i => i = wt.heap.size ∨ i = wt.heap.size + 1) ((wt.alloc (.map #[] 0)).alloc (.map #[] 0)) w2 := HKE.out.trans (Ke.below _ HB2.out)
                exact (k1.trans (HKg.out.mono (fun i _ e => .inl e))).trans (HKh.out.mono (fun i _ e => .inr e))
              case measure => simp [intOf]; have := HLT.out; omega
            · have e4 : (cl == 4) = false := by rw [beq_eq_false_iff_ne]; exact hc
              have HNX : Hid (ObjTo e l3 (k + 1)) := Lib.hid (HJ.out.next HX.out HTB.out (by rw [Bool.eq_false_iff]; intro q; rcases clash_iff.1 q with q | q; exact hn q; exact hc q.1))
              have HC4 := Lib.hid hc
              clear hn hc
              by_cases hp : ProcsTo l3 k (.int .u32 va)
              · have HP := Lib.hid (boolOf_yes hp)
                have HPP := Lib.hid hp
                clear hp
                go_wp2_with (first | (have _f := f2; refine wpList_load_mid rfl 42 (.tmp 50) rfl b3 (o3 + k * 6) rfl [.int .i64 cl, .string on, .int .i64 bm, .int .i64 bi, .int .u32 va, .slice pa pl.length pc] _ HCO.out Try.underlying42 rfl (by kernel_rfl) ?_; clear _f f2) | (have _f := f3; refine alloc_sep rfl 42 rfl (HSN.out _) (z := .agg #[.int .i64 0, .string ⟨#[]⟩, .int .i64 0, .int .i64 0, .int .u32 0, .slice none 0 0]) (cs := #[.int .i64 0, .string ⟨#[]⟩, .int .i64 0, .int .i64 0, .int .u32 0, .slice none 0 0]) (by kernel_rfl) rfl ?_; intro wc S' b' s'; have HSc := Lib.hid S'; have HBc := Lib.hid b'; clear S' b' s' _f f3) | (have _f := f4; refine store_sep (cells := #[.int .i64 cl, .string on, .int .i64 bm, .int .i64 bi, .int .u32 va, .slice pa pl.length pc]) rfl 42 (.tmp 8) (.tmp 51) rfl HSc.out 0 rfl rfl rfl (by kernel_rfl) rfl rfl ?_; intro we S' k' s'; have HAe : Hid (At we wr.heap.size #[.int .i64 cl, .string on, .int .i64 bm, .int .i64 bi, .int .u32 va, .slice pa pl.length pc] 42) := Lib.hid (S'.at 0 rfl); have HBe : Hid (Below wr.heap.size wr we) := Lib.hid (((Ke.below (· = wr.heap.size) HBc.out).trans k').toBelow (fun i hi e => absurd e (Nat.ne_of_lt hi))); have HBWe := Lib.hid (bel_then HBq.out HBe.out); have HGe := Lib.hid (HGq.out.bel HBe.out); have y0 := (HAe.out.cell 0).trans (show _ = some (.int .i64 cl) from rfl); clear S' k' s' _f f4) | (have _f := f5; refine load_sep (cs := #[.string nm, .slice a1 l1.length c1, .slice a2 l2.length c2, .slice (some ⟨b3, o3, none⟩) l3.length c3]) rfl 26 (.tmp 1) rfl (Sep.one HGe.out) 0 rfl rfl Try.underlying26 rfl (by kernel_rfl) ?_; clear _f f5) | (have _f := f6; refine load_sep (cs := #[.int .i64 cl, .string on, .int .i64 bm, .int .i64 bi, .int .u32 va, .slice pa pl.length pc]) rfl 42 (.tmp 8) rfl (Sep.one HAe.out) 0 rfl rfl Try.underlying42 rfl (by kernel_rfl) ?_; clear _f f6) | (have _f := f7; refine (HMX.out _ HBWe.out).mono ?_; rw [HTB.out]; rintro e' w2 ⟨rfl, hb⟩; have HB2 := Lib.hid (bel_then HBe.out hb); have HAf := Lib.hid (HAe.out.bel hb); have y1 := (HAf.out.cell 1).trans (show _ = some (.string on) from rfl); have y4 := (HAf.out.cell 4).trans (show _ = some (.int .u32 va) from rfl); have HM1f := Lib.hid (HM1.out.bel HB2.out); have HM2f := Lib.hid (HM2.out.bel HB2.out); have lk1 := HM1f.out.look key_str Try.underlying70 (zero_is _) HK1.out; have lk2 := HM2f.out.look key_u32 Try.underlying71 (zero_is _) HK2.out; rw [HN.out] at lk1; clear lk2; clear hb y0 _f f7) | (have _f := f8; refine wpList_set rfl (.tmp 76) (.tmp 78) (.tmp 79) 70 rfl HM1f.out key_str Try.underlying70 HKM.out rfl rfl HK1.out rfl (NamesTo l3 (k + 1)) ⟨fun _ => rfl, fun _ => names_new HX.out⟩ (fun z hz => names_old HX.out z hz) ?_; intro w3 hm hkk; have HM1g := Lib.hid hm; have HKg := Lib.hid hkk; have HM2g := Lib.hid (HM2f.out.ke hkk (by omega)); have HAg : Hid (At w3 wr.heap.size #[.int .i64 cl, .string on, .int .i64 bm, .int .i64 bi, .int .u32 va, .slice pa pl.length pc] 42) := Lib.hid (HAf.out.ke hkk HNE.out.1); have y4 := (HAg.out.cell 4).trans (show _ = some (.int .u32 va) from rfl); have lk2 := HM2g.out.look key_u32 Try.underlying71 (zero_is _) HK2.out; rw [HP.out] at lk2; clear hm hkk _f f8) | (have _f := f9; refine wpList_set rfl (.tmp 80) (.tmp 82) (.tmp 91) 71 rfl HM2g.out key_u32 Try.underlying71 HKM.out rfl rfl HK2.out rfl (ProcsTo l3 (k + 1)) ⟨fun _ => rfl, fun _ => (procs_old HX.out _ (.inl HC4.out)).2 HPP.out⟩ (fun z hz => procs_old HX.out z (.inl HC4.out)) ?_; intro w4 hm hkk; have HM2h := Lib.hid hm; have HKh := Lib.hid hkk; have HM1h := Lib.hid (HM1g.out.ke hkk (by omega)); clear hm hkk _f f9))
                go_roundw
                case rel =>
                  refine ⟨k + 1, by go_num, HLT.out, HNX.out, HM1h.out, HM2h.out, ?_⟩
                  have k1 : Ke (fun i => i = wt.heap.size ∨ i = wt.heap.size + 1) ((wt.alloc (.map #[] 0)).alloc (.map #[] 0)) w2 := HKE.out.trans (Ke.below _ HB2.out)
                  exact (k1.trans (HKg.out.mono (fun i _ e => .inl e))).trans (HKh.out.mono (fun i _ e => .inr e))
                case measure => simp [intOf]; have := HLT.out; omega
              · have HP := Lib.hid (boolOf_no hp)
                have HPP := Lib.hid hp
                clear hp
                go_wp2_with (first | (have _f := f2; refine wpList_load_mid rfl 42 (.tmp 50) rfl b3 (o3 + k * 6) rfl [.int .i64 cl, .string on, .int .i64 bm, .int .i64 bi, .int .u32 va, .slice pa pl.length pc] _ HCO.out Try.underlying42 rfl (by kernel_rfl) ?_; clear _f f2) | (have _f := f3; refine alloc_sep rfl 42 rfl (HSN.out _) (z := .agg #[.int .i64 0, .string ⟨#[]⟩, .int .i64 0, .int .i64 0, .int .u32 0, .slice none 0 0]) (cs := #[.int .i64 0, .string ⟨#[]⟩, .int .i64 0, .int .i64 0, .int .u32 0, .slice none 0 0]) (by kernel_rfl) rfl ?_; intro wc S' b' s'; have HSc := Lib.hid S'; have HBc := Lib.hid b'; clear S' b' s' _f f3) | (have _f := f4; refine store_sep (cells := #[.int .i64 cl, .string on, .int .i64 bm, .int .i64 bi, .int .u32 va, .slice pa pl.length pc]) rfl 42 (.tmp 8) (.tmp 51) rfl HSc.out 0 rfl rfl rfl (by kernel_rfl) rfl rfl ?_; intro we S' k' s'; have HAe : Hid (At we wr.heap.size #[.int .i64 cl, .string on, .int .i64 bm, .int .i64 bi, .int .u32 va, .slice pa pl.length pc] 42) := Lib.hid (S'.at 0 rfl); have HBe : Hid (Below wr.heap.size wr we) := Lib.hid (((Ke.below (· = wr.heap.size) HBc.out).trans k').toBelow (fun i hi e => absurd e (Nat.ne_of_lt hi))); have HBWe := Lib.hid (bel_then HBq.out HBe.out); have HGe := Lib.hid (HGq.out.bel HBe.out); have y0 := (HAe.out.cell 0).trans (show _ = some (.int .i64 cl) from rfl); clear S' k' s' _f f4) | (have _f := f5; refine load_sep (cs := #[.string nm, .slice a1 l1.length c1, .slice a2 l2.length c2, .slice (some ⟨b3, o3, none⟩) l3.length c3]) rfl 26 (.tmp 1) rfl (Sep.one HGe.out) 0 rfl rfl Try.underlying26 rfl (by kernel_rfl) ?_; clear _f f5) | (have _f := f6; refine load_sep (cs := #[.int .i64 cl, .string on, .int .i64 bm, .int .i64 bi, .int .u32 va, .slice pa pl.length pc]) rfl 42 (.tmp 8) rfl (Sep.one HAe.out) 0 rfl rfl Try.underlying42 rfl (by kernel_rfl) ?_; clear _f f6) | (have _f := f7; refine (HMX.out _ HBWe.out).mono ?_; rw [HTB.out]; rintro e' w2 ⟨rfl, hb⟩; have HB2 := Lib.hid (bel_then HBe.out hb); have HAf := Lib.hid (HAe.out.bel hb); have y1 := (HAf.out.cell 1).trans (show _ = some (.string on) from rfl); have y4 := (HAf.out.cell 4).trans (show _ = some (.int .u32 va) from rfl); have HM1f := Lib.hid (HM1.out.bel HB2.out); have HM2f := Lib.hid (HM2.out.bel HB2.out); have lk1 := HM1f.out.look key_str Try.underlying70 (zero_is _) HK1.out; have lk2 := HM2f.out.look key_u32 Try.underlying71 (zero_is _) HK2.out; rw [HN.out] at lk1; clear lk2; clear hb y0 _f f7) | (have _f := f8; refine wpList_set rfl (.tmp 76) (.tmp 78) (.tmp 79) 70 rfl HM1f.out key_str Try.underlying70 HKM.out rfl rfl HK1.out rfl (NamesTo l3 (k + 1)) ⟨fun _ => rfl, fun _ => names_new HX.out⟩ (fun z hz => names_old HX.out z hz) ?_; intro w3 hm hkk; have HM1g := Lib.hid hm; have HKg := Lib.hid hkk; have HM2g := Lib.hid (HM2f.out.ke hkk (by omega)); have HAg : Hid (At w3 wr.heap.size #[.int .i64 cl, .string on, .int .i64 bm, .int .i64 bi, .int .u32 va, .slice pa pl.length pc] 42) := Lib.hid (HAf.out.ke hkk HNE.out.1); have y4 := (HAg.out.cell 4).trans (show _ = some (.int .u32 va) from rfl); have lk2 := HM2g.out.look key_u32 Try.underlying71 (zero_is _) HK2.out; rw [HP.out] at lk2; clear hm hkk _f f8) | (have _f := f9; refine wpList_set rfl (.tmp 80) (.tmp 82) (.tmp 91) 71 rfl HM2g.out key_u32 Try.underlying71 HKM.out rfl rfl HK2.out rfl (ProcsTo l3 (k + 1)) ⟨fun q => absurd ((procs_old HX.out _ (.inl HC4.out)).1 q) HPP.out, fun q => absurd q (by decide)⟩ (fun z hz => procs_old HX.out z (.inl HC4.out)) ?_; intro w4 hm hkk; have HM2h := Lib.hid hm; have HKh := Lib.hid hkk; have HM1h := Lib.hid (HM1g.out.ke hkk (by omega)); clear hm hkk _f f9))
                go_roundw
                case rel =>
                  refine ⟨k + 1, by go_num, HLT.out, HNX.out, HM1h.out, HM2h.out, ?_⟩
                  have k1 : Ke (fun i => i = wt.heap.size ∨ i = wt.heap.size + 1) ((wt.alloc (.map #[] 0)).alloc (.map #[] 0)) w2 := HKE.out.trans (Ke.below _ HB2.out)
                  exact (k1.trans (HKg.out.mono (fun i _ e => .inl e))).trans (HKh.out.mono (fun i _ e => .inr e))
                case measure => simp [intOf]; have := HLT.out; omega
        · obtain rfl : k = l3.length := by omega
          have HV := Lib.hid (HY5.out HIB.out HSZ.out HJT.out (HJ.out.done (Nat.le_refl _)))
          clear hk
          go_wp2
          go_ret
          rw [HV.out]
          exact ⟨rfl, HBq.out⟩
end Go.Proofs.Ytfnibpkojhgflaa
