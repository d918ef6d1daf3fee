/- Contract: a face's bytes behind the key (symfile.rest). Printed by bin/gen_symrest.py. -/
import Derived.Test.YtfnibpkojhgflaaFaceB
import Derived.Test.YtfnibpkojhgflaaLibA
import Derived.Deep.DeepCutAuto
import Derived.Laws.EntriesVeiled
namespace Go.Proofs.Ytfnibpkojhgflaa
set_option linter.unusedVariables false
set_option linter.unusedSimpArgs false
open Go.RowKit

set_option maxRecDepth 100000 in
set_option maxHeartbeats 32000000 in
theorem rest_walk (f : Fc) (w : World) (h : f.Rd w) (hs : SmallF f) :
    Calls Try.prog 27 #[f.val] w fun e w' => ∃ a c, e = .returned (.slice a (restF f.d).length c) ∧ RdI .u8 w' a c (restF f.d) ∧ Below w.heap.size w w' := by
  have i1 := h.imps.len
  have i2 := h.types.len
  have i3 := h.objs.len
  obtain ⟨b1, o1, hat1, hcell1⟩ := h.imps.at'
  obtain ⟨b2, o2, hat2, hcell2⟩ := h.types.at'
  obtain ⟨b3, o3, hat3, hcell3⟩ := h.objs.at'
  have HAT1 := Lib.hid hat1
  have HAT2 := Lib.hid hat2
  have HAT3 := Lib.hid hat3
  have HC1 := Lib.hid hcell1
  have HC2 := Lib.hid hcell2
  have HC3 := Lib.hid hcell3
  have HOK1 := Lib.hid h.imps.all
  have HOK2 := Lib.hid h.types.all
  have HOK3 := Lib.hid h.objs.all
  have HSM := Lib.hid hs
  have HRE : Hid (restF f.d = [(f.imps.l.length : Int) % 256] ++ (f.imps.l.flatMap impF ++ ([(f.types.l.length : Int) % 256] ++ (f.types.l.flatMap (fun x => typF x.d) ++ (wordB f.objs.l.length ++ f.objs.l.flatMap (fun x => objF x.d)))))) := Lib.hid (by
    show [(f.imps.l.length : Int) % 256] ++ (f.imps.l.flatMap impF ++ ([((f.types.l.map FT.d).length : Int) % 256] ++ ((f.types.l.map FT.d).flatMap typF ++ (wordB ((f.objs.l.map FO.d).length) ++ (f.objs.l.map FO.d).flatMap objF)))) = _
    rw [List.length_map, List.length_map, List.flatMap_map, List.flatMap_map])
  clear h hs hat1 hat2 hat3 hcell1 hcell2 hcell3
  obtain ⟨R, hR⟩ : ∃ R, R = restF f.d := ⟨_, rfl⟩
  rw [← hR] at HRE ⊢
  clear hR
  obtain ⟨nm, ⟨a1, c1, l1⟩, ⟨a2, c2, l2⟩, ⟨a3, c3, l3⟩⟩ := f
  show Calls _ _ #[.agg #[.string nm, .slice a1 l1.length c1, .slice a2 l2.length c2, .slice a3 l3.length c3]] w _
  have HSMn : Hid (l1.length ≤ 12 ∧ l2.length ≤ 200 ∧ l3.length ≤ 900) := Lib.hid ⟨HSM.out.nimps, HSM.out.ntypes, HSM.out.nobjs⟩
  dsimp only at i1 i2 i3 HAT1 HAT2 HAT3 HC1 HC2 HC3 HOK1 HOK2 HOK3 HRE
  have HRS0 : Hid (RS w (((w.alloc (.cells #[.string nm, .slice a1 l1.length c1, .slice a2 l2.length c2, .slice a3 l3.length c3] 26)).alloc (.cells #[.int .u8 ((l1.length : Int) % 256)] 5)).alloc (.cells #[.slice (some ⟨w.heap.size + 1, 0, none⟩) 1 1] 46)) w.heap.size (w.heap.size + 1 + 1) 1 #[.string nm, .slice a1 l1.length c1, .slice a2 l2.length c2, .slice a3 l3.length c3] [(l1.length : Int) % 256]) := Lib.hid (RS.start (l2 := []) w #[.string nm, .slice a1 l1.length c1, .slice a2 l2.length c2, .slice a3 l3.length c3] (l1.length : Int))
  have HSN := Lib.hid (fun w' : World => Sep.nil w')
  have f1 : True := trivial
  have f2 : True := trivial
  have f3 : True := trivial
  have f4 : True := trivial
  have f5 : True := trivial
  have f6 : True := trivial
  have f7 : True := trivial
  have f8 : True := trivial
  have f9 : True := trivial
  go_enter Try.func27, Try.ntmps27
  go_wp2_with (fail)
  go_loopw [25] (fun i wr => ∃ k : Nat, i = .int .i64 k ∧ k ≤ l1.length ∧ RS w wr w.heap.size (w.heap.size + 1 + 1) (1 + 20 * k) #[.string nm, .slice a1 l1.length c1, .slice a2 l2.length c2, .slice a3 l3.length c3] ([(l1.length : Int) % 256] ++ (l1.take k).flatMap impF)) (fun i _ => l1.length - (intOf i).toNat)
  case atStart => exact ⟨0, rfl, Nat.zero_le _, by rw [List.take_zero, List.flatMap_nil, List.append_nil]; exact HRS0.out⟩
  case round =>
    obtain ⟨k, rfl, hk, hr⟩ := hrel
    have HR := Lib.hid hr
    clear hr
    by_cases hlt : k < l1.length
    · obtain ⟨⟨xn, xk⟩, hx⟩ := get_lt hlt
      have HX := Lib.hid hx
      have HLT := Lib.hid hlt
      obtain ⟨rfl, hb⟩ := HAT1.out (by omega)
      have HCO : Hid (∀ (q : Nat) (y : Value), ([.string xn, .int .u32 xk] : List Value)[q]? = some y → wr.cell? ⟨b1, o1 + k * 2 + q, none⟩ = some y) := Lib.hid (fun q y hy => (HR.out.bel.cell (p := ⟨b1, o1 + k * 2 + q, none⟩) hb).trans (HC1.out k _ hx q y hy))
      have HXK : Hid (0 ≤ xk ∧ xk < 4294967296) := Lib.hid (HOK1.out _ (List.mem_of_getElem? hx)).2
      have HXN : Hid (xn.size ≤ 15) := Lib.hid (HSM.out.imps _ (List.mem_of_getElem? hx))
      have HXL : Hid ((nameB xn).length ≤ 16) := Lib.hid (by rw [nameB_len]; have := HXN.out; omega)
      have HK12 : Hid (k < 12) := Lib.hid (by have := HSMn.out; omega)
      clear hx hb
      go_wp2_with (first | (have _f := f1; refine wpList_load_mid rfl 86 (.tmp 27) rfl b1 (o1 + k * 2) rfl [.string xn, .int .u32 xk] _ HCO.out Try.underlying86 rfl (by kernel_rfl) ?_; clear _f f1) | (have _f := f2; refine alloc_sep rfl 86 rfl (HSN.out _) (z := .agg #[.string ⟨#[]⟩, .int .u32 0]) (cs := #[.string ⟨#[]⟩, .int .u32 0]) (by kernel_rfl) rfl ?_; intro wc S' b' s'; have HSc := Lib.hid S'; have HBc := Lib.hid b'; clear S' b' s' _f f2) | (have _f := f3; refine store_sep (cells := #[.string xn, .int .u32 xk]) rfl 86 (.tmp 6) (.tmp 28) rfl HSc.out 0 rfl rfl rfl (by kernel_rfl) rfl rfl ?_; intro we S' k' s'; have HAe : Hid (At we wr.heap.size #[.string xn, .int .u32 xk] 86) := Lib.hid (S'.at 0 rfl); have hbe : Below wr.heap.size wr we := ((Ke.below (· = wr.heap.size) HBc.out).trans k').toBelow (fun i hi e => absurd e (Nat.ne_of_lt hi)); have HRe := Lib.hid (HR.out.on hbe); have HGX : Hid (¬ wr.heap.size = (w.heap.size + 1 + 1)) := Lib.hid (Nat.ne_of_gt HR.out.glt); clear S' k' s' hbe _f f3))
      refine wp_region_tail [([0, 1, 2, 4, 5], 3), ([], 6), ([], 7)] [] 8 [7, 6, 5, 4, 3, 2, 1, 0] (by kernel_rfl) (by kernel_rfl) (fun _ _ d _ _ h => by cases d <;> exact h) ?_
      intro wd hbd
      have HRd := Lib.hid (HRe.out.on hbd)
      have HAd := Lib.hid (HAe.out.bel hbd)
      have lc0 := HAd.out.laterCellB 0 (v := .string xn) rfl
      have lc1 := HAd.out.laterCellB 1 (v := .int .u32 xk) rfl
      refine mixT_step ?_
      simp only [pickOps, nth, Act.put, List.setIfInBounds_toArray, List.set_cons_succ, List.set_cons_zero]
      haveI : Nonempty World := ⟨w⟩
      (repeat (go_big_quiet_step (fail)))
      refine wpQuiet_nil ?_
      clear lc0 lc1 hbd
      go_wp2_with (refine (name8_walk xn _ (by have := HXN.out; omega)).mono ?_; rintro e' w5 ⟨an5, cn5, rfl, hr, hb⟩; have HN5 := Lib.hid hr; have HR5 := Lib.hid (HRd.out.on hb); have HB5 := Lib.hid hb; clear hr hb)
      refine ⟨HB5.out, mixT_step ?_⟩
      simp only [pickOps, nth, Act.put, List.setIfInBounds_toArray, List.set_cons_succ, List.set_cons_zero]
      refine wpQuiet_nil ?_
      go_wp2_with (refine (put_walk xk _ HXK.out).mono ?_; rintro e' w6 ⟨ap6, cp6, rfl, hr, hb⟩; have HW6 := Lib.hid hr; have HR6 := Lib.hid (HR5.out.on hb); have HB6 := Lib.hid hb; have HN5' := Lib.hid (HN5.out.below hb (Nat.le_refl _)); clear hr hb)
      refine ⟨HB6.out, mixT_step ?_⟩
      simp only [pickOps, nth, Act.put, List.setIfInBounds_toArray, List.set_cons_succ, List.set_cons_zero]
      refine wpQuiet_nil ?_
      go_wp2_with (fail)
      refine ⟨bel1 _ _, mixT_end ?_⟩
      simp only [pickOps, nth, Act.put, List.setIfInBounds_toArray, List.set_cons_succ, List.set_cons_zero]
      refine wpQuiet_nil ?_
      go_wp2_with (refine (add_of2 HR6.out HN5'.out HW6.out rfl (wordB_len _) (by have := HXL.out; omega) (by have := HK12.out; omega)).mono ?_; rintro e' w7 ⟨rfl, hst⟩; have HST := Lib.hid hst; clear hst)
      go_roundw
      case rel => exact ⟨k + 1, by go_num, HLT.out, by rw [take_flatF HX.out, ← List.append_assoc]; exact HST.out.1.more (by rw [List.length_append, wordB_len]; have := HXL.out; omega)⟩
      case measure => simp [intOf]; have := HLT.out; omega
    · obtain rfl : k = l1.length := by omega
      have HR1 : Hid (RS w wr w.heap.size (w.heap.size + 1 + 1) (300) #[.string nm, .slice a1 l1.length c1, .slice a2 l2.length c2, .slice a3 l3.length c3] ([(l1.length : Int) % 256] ++ l1.flatMap impF)) := Lib.hid (by have := HR.out; rw [List.take_length] at this; exact this.more (by have := HSMn.out; omega))
      clear hk HR
      have g2 := (HR1.out.face.cell 2).trans (show _ = some (.slice a2 l2.length c2) from rfl)
      go_wp2_with (first | (have _f := f4; refine (add_lit1 HR1.out [(l2.length : Int) % 256] (one_byte _) 1 rfl (by decide) (by decide)).mono ?_; rintro e' wa ⟨rfl, hst⟩; have HR2 : Hid (RS w wa w.heap.size (w.heap.size + 1 + 1) (301) #[.string nm, .slice a1 l1.length c1, .slice a2 l2.length c2, .slice a3 l3.length c3] (([(l1.length : Int) % 256] ++ l1.flatMap impF) ++ [(l2.length : Int) % 256])) := Lib.hid (hst.1.more (by simp)); have g2 := (HR2.out.face.cell 2).trans (show _ = some (.slice a2 l2.length c2) from rfl); clear hst _f f4))
      clear g2 HR1
      go_loopw [50] (fun i wr => ∃ k : Nat, i = .int .i64 k ∧ k ≤ l2.length ∧ RS w wr w.heap.size (w.heap.size + 1 + 1) (301 + 2300 * k) #[.string nm, .slice a1 l1.length c1, .slice a2 l2.length c2, .slice a3 l3.length c3] ((([(l1.length : Int) % 256] ++ l1.flatMap impF) ++ [(l2.length : Int) % 256]) ++ (l2.take k).flatMap (fun x => typF x.d))) (fun i _ => l2.length - (intOf i).toNat)
      case atStart => exact ⟨0, rfl, Nat.zero_le _, by rw [List.take_zero, List.flatMap_nil, List.append_nil]; exact HR2.out⟩
      case round =>
        obtain ⟨k, rfl, hk, hr⟩ := hrel
        have HR := Lib.hid hr
        clear hr
        by_cases hlt : k < l2.length
        · obtain ⟨⟨fo, le, si, ⟨bm, bi⟩, ⟨fa, fcc, fl⟩⟩, hx⟩ := get_lt hlt
          have HX := Lib.hid hx
          have HLT := Lib.hid hlt
          obtain ⟨rfl, hb⟩ := HAT2.out (by omega)
          have HCO : Hid (∀ (q : Nat) (y : Value), ([.int .i64 fo, .int .i64 le, .int .i64 si, .int .i64 bm, .int .i64 bi, .slice fa fl.length fcc] : List Value)[q]? = some y → wr.cell? ⟨b2, o2 + k * 6 + q, none⟩ = some y) := Lib.hid (fun q y hy => (HR.out.bel.cell (p := ⟨b2, o2 + k * 6 + q, none⟩) hb).trans (HC2.out k _ hx q y hy))
          have hok := HOK2.out _ (List.mem_of_getElem? hx)
          obtain ⟨⟨q1, q1'⟩, ⟨q2, q2'⟩, ⟨q3, q3'⟩, ⟨⟨q4, q4'⟩, q5, q5'⟩, q6⟩ := hok
          dsimp only at q1 q1' q2 q2' q3 q3' q4 q4' q5 q5' q6
          have HRF := Lib.hid q6
          have hfl := q6.len
          dsimp only at hfl
          have HFL : Hid (fl.length ≤ 100) := Lib.hid (HSM.out.fields _ (List.mem_of_getElem? hx))
          have HFN : Hid (∀ y ∈ fl, y.name.size ≤ 15) := Lib.hid (HSM.out.names _ (List.mem_of_getElem? hx))
          have HK2 : Hid (k < 200) := Lib.hid (by have := HSMn.out; omega)
          clear hx hb q6
          by_cases hf2 : fo ≠ 2
          · have e2 : (fo == 2) = false := by rw [beq_eq_false_iff_ne]; exact hf2
            by_cases hf1 : fo = 1
            · have e1 : (fo == 1) = true := by rw [hf1]; rfl
              have HTY : Hid (typF ⟨fo, le, si, ⟨bm, bi⟩, fl⟩ = [fo % 256] ++ ((wordB le ++ wordB si) ++ refB2 ⟨bm, bi⟩)) := Lib.hid (by unfold typF typHead; rw [if_neg hf2, if_pos hf1, if_neg hf2])
              clear hf1 hf2
              go_wp2_with (first | (have _f := f1; refine wpList_load_mid rfl 34 (.tmp 52) rfl b2 (o2 + k * 6) rfl [.int .i64 fo, .int .i64 le, .int .i64 si, .int .i64 bm, .int .i64 bi, .slice fa fl.length fcc] _ HCO.out Try.underlying34 rfl (by kernel_rfl) ?_; clear _f f1) | (have _f := f2; refine alloc_sep rfl 34 rfl (HSN.out _) (z := .agg #[.int .i64 0, .int .i64 0, .int .i64 0, .int .i64 0, .int .i64 0, .slice none 0 0]) (cs := #[.int .i64 0, .int .i64 0, .int .i64 0, .int .i64 0, .int .i64 0, .slice none 0 0]) (by kernel_rfl) rfl ?_; intro wc S' b' s'; have HSc := Lib.hid S'; have HBc := Lib.hid b'; clear S' b' s' _f f2) | (have _f := f3; refine store_sep (cells := #[.int .i64 fo, .int .i64 le, .int .i64 si, .int .i64 bm, .int .i64 bi, .slice fa fl.length fcc]) rfl 34 (.tmp 8) (.tmp 53) rfl HSc.out 0 rfl rfl rfl (by kernel_rfl) rfl rfl ?_; intro we S' k' s'; have HAe : Hid (At we wr.heap.size #[.int .i64 fo, .int .i64 le, .int .i64 si, .int .i64 bm, .int .i64 bi, .slice fa fl.length fcc] 34) := Lib.hid (S'.at 0 rfl); have hbe : Below wr.heap.size wr we := ((Ke.below (· = wr.heap.size) HBc.out).trans k').toBelow (fun i hi e => absurd e (Nat.ne_of_lt hi)); have HRe := Lib.hid (HR.out.on hbe); have HGX : Hid (¬ wr.heap.size = (w.heap.size + 1 + 1)) := Lib.hid (Nat.ne_of_gt HR.out.glt); have y0 := (HAe.out.cell 0).trans (show _ = some (.int .i64 fo) from rfl); clear S' k' s' hbe _f f3) | (have _f := f5; refine (add_lit1 HRe.out [fo % 256] (one_byte _) 1 rfl (by decide) (by have := HK2.out; omega)).mono ?_; rintro e' wb ⟨rfl, hst⟩; have HRb : Hid (RS w wb w.heap.size (w.heap.size + 1 + 1) (301 + 2300 * k + 1) #[.string nm, .slice a1 l1.length c1, .slice (some ⟨b2, o2, none⟩) l2.length c2, .slice a3 l3.length c3] (((([(l1.length : Int) % 256] ++ l1.flatMap impF) ++ [(l2.length : Int) % 256]) ++ (l2.take k).flatMap (fun x => typF x.d)) ++ [fo % 256])) := Lib.hid (hst.1); have HAb : Hid (At wb wr.heap.size #[.int .i64 fo, .int .i64 le, .int .i64 si, .int .i64 bm, .int .i64 bi, .slice fa fl.length fcc] 34) := Lib.hid (hst.2.1 _ _ _ HAe.out (by decide) HGX.out); have y0 := (HAb.out.cell 0).trans (show _ = some (.int .i64 fo) from rfl); have y1 := (HAb.out.cell 1).trans (show _ = some (.int .i64 le) from rfl); have y2 := (HAb.out.cell 2).trans (show _ = some (.int .i64 si) from rfl); have y5 := (HAb.out.cell 5).trans (show _ = some (.slice fa fl.length fcc) from rfl); clear hst _f f5))
              have HRe := HRb
              have HAe := HAb
              clear y0 y1 y2 y5
              refine wp_region_tail [([0, 1, 2, 3, 5, 6, 7], 4), ([], 8), ([], 9)] [] 10 [9, 8, 7, 6, 5, 4, 3, 2, 1, 0] (by kernel_rfl) (by kernel_rfl) (fun _ _ d _ _ h => by cases d <;> exact h) ?_
              intro wd hbd
              have HRd := Lib.hid (HRe.out.on hbd)
              have HAd := Lib.hid (HAe.out.bel hbd)
              have lc1 := HAd.out.laterCellB 1 (v := .int .i64 le) rfl
              have lc2 := HAd.out.laterCellB 2 (v := .int .i64 si) rfl
              refine mixT_step ?_
              simp only [pickOps, nth, Act.put, List.setIfInBounds_toArray, List.set_cons_succ, List.set_cons_zero]
              haveI : Nonempty World := ⟨w⟩
              (repeat (go_big_quiet_step (fail)))
              refine wpQuiet_nil ?_
              clear lc1 lc2 hbd
              go_wp2_with (refine (put_walk (le % 4294967296) _ ⟨by omega, by omega⟩).mono ?_; rintro e' w5 ⟨ap5, cp5, rfl, hr, hb⟩; have HW5 := Lib.hid hr; have HR5 := Lib.hid (HRd.out.on hb); have HB5 := Lib.hid hb; have HAy := Lib.hid (HAd.out.bel hb); clear hr hb)
              refine ⟨HB5.out, mixT_step ?_⟩
              simp only [pickOps, nth, Act.put, List.setIfInBounds_toArray, List.set_cons_succ, List.set_cons_zero]
              refine wpQuiet_nil ?_
              go_wp2_with (refine (put_walk (si % 4294967296) _ ⟨by omega, by omega⟩).mono ?_; rintro e' w6 ⟨ap6, cp6, rfl, hr, hb⟩; have HW6 := Lib.hid hr; have HR6 := Lib.hid (HR5.out.on hb); have HB6 := Lib.hid hb; have HW5' := Lib.hid (HW5.out.below hb (Nat.le_refl _)); have HAy6 := Lib.hid (HAy.out.bel hb); clear hr hb)
              refine ⟨HB6.out, mixT_step ?_⟩
              simp only [pickOps, nth, Act.put, List.setIfInBounds_toArray, List.set_cons_succ, List.set_cons_zero]
              refine wpQuiet_nil ?_
              go_wp2_with (fail)
              refine ⟨bel1 _ _, mixT_end ?_⟩
              simp only [pickOps, nth, Act.put, List.setIfInBounds_toArray, List.set_cons_succ, List.set_cons_zero]
              refine wpQuiet_nil ?_
              go_wp2_with (first | (have _f := f9; refine (add_of2 HR6.out HW5'.out HW6.out (wordB_len _) (wordB_len _) (by decide) (by have := HK2.out; omega)).mono ?_; rintro e' wz ⟨rfl, hst⟩; have HRz := Lib.hid (hst.1.more (n' := 301 + 2300 * k + 9) (by simp only [List.length_append, wordB_len]; omega)); have HAz : Hid (At wz wr.heap.size #[.int .i64 fo, .int .i64 le, .int .i64 si, .int .i64 bm, .int .i64 bi, .slice fa fl.length fcc] 34) := Lib.hid (hst.2.1 _ _ _ (HAy6.out.bel (bel1 _ _)) (by decide) HGX.out); clear hst _f f9) | (have _f := f6; refine wpList_load_mid rfl 30 (.tmp 112) rfl wr.heap.size 3 rfl [.int .i64 bm, .int .i64 bi] _ (fun q y hy => (HAz.out.cell (3 + q)).trans (by match q, hy with | 0, hy => exact hy | 1, hy => exact hy)) Try.underlying30 rfl (by kernel_rfl) ?_; clear _f f6) | (have _f := f7; refine (refBytes8_walk ⟨bm, bi⟩ _).mono ?_; rintro e' wp ⟨ar, cr, rfl, hr, hb⟩; have HFp := Lib.hid hr; have HRp := Lib.hid (HRz.out.on hb); clear hr hb _f f7) | (have _f := f8; refine (add_of1 HRp.out HFp.out (show (refB2 _).length = 2 from rfl) (by decide) (by have := HK2.out; omega)).mono ?_; rintro e' wq ⟨rfl, hst⟩; have HST := Lib.hid hst; clear hst _f f8))
              go_roundw
              case rel =>
                refine ⟨k + 1, by go_num, HLT.out, ?_⟩
                rw [take_flatF HX.out (fun x => typF x.d), ← List.append_assoc]
                have hh := HST.out.1
                rw [wordB_mod, wordB_mod] at hh
                rw [show typF (FT.d ⟨fo, le, si, ⟨bm, bi⟩, ⟨fa, fcc, fl⟩⟩) = _ from HTY.out]
                simp only [List.append_assoc] at hh ⊢
                exact hh.more (by show _ + 2 ≤ _; omega)
              case measure => simp [intOf]; have := HLT.out; omega
            · have e1 : (fo == 1) = false := by rw [beq_eq_false_iff_ne]; exact hf1
              have HTY : Hid (typF ⟨fo, le, si, ⟨bm, bi⟩, fl⟩ = [fo % 256] ++ ([] ++ refB2 ⟨bm, bi⟩)) := Lib.hid (by unfold typF typHead; rw [if_neg hf2, if_neg hf1, if_neg hf2])
              clear hf1 hf2
              go_wp2_with (first | (have _f := f1; refine wpList_load_mid rfl 34 (.tmp 52) rfl b2 (o2 + k * 6) rfl [.int .i64 fo, .int .i64 le, .int .i64 si, .int .i64 bm, .int .i64 bi, .slice fa fl.length fcc] _ HCO.out Try.underlying34 rfl (by kernel_rfl) ?_; clear _f f1) | (have _f := f2; refine alloc_sep rfl 34 rfl (HSN.out _) (z := .agg #[.int .i64 0, .int .i64 0, .int .i64 0, .int .i64 0, .int .i64 0, .slice none 0 0]) (cs := #[.int .i64 0, .int .i64 0, .int .i64 0, .int .i64 0, .int .i64 0, .slice none 0 0]) (by kernel_rfl) rfl ?_; intro wc S' b' s'; have HSc := Lib.hid S'; have HBc := Lib.hid b'; clear S' b' s' _f f2) | (have _f := f3; refine store_sep (cells := #[.int .i64 fo, .int .i64 le, .int .i64 si, .int .i64 bm, .int .i64 bi, .slice fa fl.length fcc]) rfl 34 (.tmp 8) (.tmp 53) rfl HSc.out 0 rfl rfl rfl (by kernel_rfl) rfl rfl ?_; intro we S' k' s'; have HAe : Hid (At we wr.heap.size #[.int .i64 fo, .int .i64 le, .int .i64 si, .int .i64 bm, .int .i64 bi, .slice fa fl.length fcc] 34) := Lib.hid (S'.at 0 rfl); have hbe : Below wr.heap.size wr we := ((Ke.below (· = wr.heap.size) HBc.out).trans k').toBelow (fun i hi e => absurd e (Nat.ne_of_lt hi)); have HRe := Lib.hid (HR.out.on hbe); have HGX : Hid (¬ wr.heap.size = (w.heap.size + 1 + 1)) := Lib.hid (Nat.ne_of_gt HR.out.glt); have y0 := (HAe.out.cell 0).trans (show _ = some (.int .i64 fo) from rfl); clear S' k' s' hbe _f f3) | (have _f := f5; refine (add_lit1 HRe.out [fo % 256] (one_byte _) 1 rfl (by decide) (by have := HK2.out; omega)).mono ?_; rintro e' wb ⟨rfl, hst⟩; have HRb : Hid (RS w wb w.heap.size (w.heap.size + 1 + 1) (301 + 2300 * k + 1) #[.string nm, .slice a1 l1.length c1, .slice (some ⟨b2, o2, none⟩) l2.length c2, .slice a3 l3.length c3] (((([(l1.length : Int) % 256] ++ l1.flatMap impF) ++ [(l2.length : Int) % 256]) ++ (l2.take k).flatMap (fun x => typF x.d)) ++ [fo % 256])) := Lib.hid (hst.1); have HAb : Hid (At wb wr.heap.size #[.int .i64 fo, .int .i64 le, .int .i64 si, .int .i64 bm, .int .i64 bi, .slice fa fl.length fcc] 34) := Lib.hid (hst.2.1 _ _ _ HAe.out (by decide) HGX.out); have y0 := (HAb.out.cell 0).trans (show _ = some (.int .i64 fo) from rfl); have y1 := (HAb.out.cell 1).trans (show _ = some (.int .i64 le) from rfl); have y2 := (HAb.out.cell 2).trans (show _ = some (.int .i64 si) from rfl); have y5 := (HAb.out.cell 5).trans (show _ = some (.slice fa fl.length fcc) from rfl); have HRz := HRb; have HAz := HAb; clear hst _f f5) | (have _f := f6; refine wpList_load_mid rfl 30 (.tmp 112) rfl wr.heap.size 3 rfl [.int .i64 bm, .int .i64 bi] _ (fun q y hy => (HAz.out.cell (3 + q)).trans (by match q, hy with | 0, hy => exact hy | 1, hy => exact hy)) Try.underlying30 rfl (by kernel_rfl) ?_; clear _f f6) | (have _f := f7; refine (refBytes8_walk ⟨bm, bi⟩ _).mono ?_; rintro e' wp ⟨ar, cr, rfl, hr, hb⟩; have HFp := Lib.hid hr; have HRp := Lib.hid (HRz.out.on hb); clear hr hb _f f7) | (have _f := f8; refine (add_of1 HRp.out HFp.out (show (refB2 _).length = 2 from rfl) (by decide) (by have := HK2.out; omega)).mono ?_; rintro e' wq ⟨rfl, hst⟩; have HST := Lib.hid hst; clear hst _f f8))
              go_roundw
              case rel =>
                refine ⟨k + 1, by go_num, HLT.out, ?_⟩
                rw [take_flatF HX.out (fun x => typF x.d), ← List.append_assoc]
                have hh := HST.out.1
                rw [show typF (FT.d ⟨fo, le, si, ⟨bm, bi⟩, ⟨fa, fcc, fl⟩⟩) = _ from HTY.out, List.nil_append]
                rw [List.append_assoc] at hh
                exact hh.more (by show _ + 2 ≤ _; omega)
              case measure => simp [intOf]; have := HLT.out; omega
          · have hf : fo = 2 := Classical.not_not.1 hf2
            have e2 : (fo == 2) = true := by rw [hf]; rfl
            have HTY : Hid (typF ⟨fo, le, si, ⟨bm, bi⟩, fl⟩ = [fo % 256] ++ ((wordB si ++ [(fl.length : Int) % 256]) ++ fl.flatMap fldF)) := Lib.hid (by unfold typF typHead; rw [if_pos hf, if_pos hf])
            clear hf hf2
            go_wp2_with (first | (have _f := f1; refine wpList_load_mid rfl 34 (.tmp 52) rfl b2 (o2 + k * 6) rfl [.int .i64 fo, .int .i64 le, .int .i64 si, .int .i64 bm, .int .i64 bi, .slice fa fl.length fcc] _ HCO.out Try.underlying34 rfl (by kernel_rfl) ?_; clear _f f1) | (have _f := f2; refine alloc_sep rfl 34 rfl (HSN.out _) (z := .agg #[.int .i64 0, .int .i64 0, .int .i64 0, .int .i64 0, .int .i64 0, .slice none 0 0]) (cs := #[.int .i64 0, .int .i64 0, .int .i64 0, .int .i64 0, .int .i64 0, .slice none 0 0]) (by kernel_rfl) rfl ?_; intro wc S' b' s'; have HSc := Lib.hid S'; have HBc := Lib.hid b'; clear S' b' s' _f f2) | (have _f := f3; refine store_sep (cells := #[.int .i64 fo, .int .i64 le, .int .i64 si, .int .i64 bm, .int .i64 bi, .slice fa fl.length fcc]) rfl 34 (.tmp 8) (.tmp 53) rfl HSc.out 0 rfl rfl rfl (by kernel_rfl) rfl rfl ?_; intro we S' k' s'; have HAe : Hid (At we wr.heap.size #[.int .i64 fo, .int .i64 le, .int .i64 si, .int .i64 bm, .int .i64 bi, .slice fa fl.length fcc] 34) := Lib.hid (S'.at 0 rfl); have hbe : Below wr.heap.size wr we := ((Ke.below (· = wr.heap.size) HBc.out).trans k').toBelow (fun i hi e => absurd e (Nat.ne_of_lt hi)); have HRe := Lib.hid (HR.out.on hbe); have HGX : Hid (¬ wr.heap.size = (w.heap.size + 1 + 1)) := Lib.hid (Nat.ne_of_gt HR.out.glt); have y0 := (HAe.out.cell 0).trans (show _ = some (.int .i64 fo) from rfl); clear S' k' s' hbe _f f3) | (have _f := f5; refine (add_lit1 HRe.out [fo % 256] (one_byte _) 1 rfl (by decide) (by have := HK2.out; omega)).mono ?_; rintro e' wb ⟨rfl, hst⟩; have HRb : Hid (RS w wb w.heap.size (w.heap.size + 1 + 1) (301 + 2300 * k + 1) #[.string nm, .slice a1 l1.length c1, .slice (some ⟨b2, o2, none⟩) l2.length c2, .slice a3 l3.length c3] (((([(l1.length : Int) % 256] ++ l1.flatMap impF) ++ [(l2.length : Int) % 256]) ++ (l2.take k).flatMap (fun x => typF x.d)) ++ [fo % 256])) := Lib.hid (hst.1); have HAb : Hid (At wb wr.heap.size #[.int .i64 fo, .int .i64 le, .int .i64 si, .int .i64 bm, .int .i64 bi, .slice fa fl.length fcc] 34) := Lib.hid (hst.2.1 _ _ _ HAe.out (by decide) HGX.out); have y0 := (HAb.out.cell 0).trans (show _ = some (.int .i64 fo) from rfl); have y1 := (HAb.out.cell 1).trans (show _ = some (.int .i64 le) from rfl); have y2 := (HAb.out.cell 2).trans (show _ = some (.int .i64 si) from rfl); have y5 := (HAb.out.cell 5).trans (show _ = some (.slice fa fl.length fcc) from rfl); clear hst _f f5))
            clear y0 y1 y2 y5
            go_cut [77] (fun _ wx => RS w wx w.heap.size (w.heap.size + 1 + 1) (301 + 2300 * k + 6) #[.string nm, .slice a1 l1.length c1, .slice (some ⟨b2, o2, none⟩) l2.length c2, .slice a3 l3.length c3] ((((([(l1.length : Int) % 256] ++ l1.flatMap impF) ++ [(l2.length : Int) % 256]) ++ (l2.take k).flatMap (fun x => typF x.d)) ++ [fo % 256]) ++ (wordB si ++ [(fl.length : Int) % 256])) ∧ At wx wr.heap.size #[.int .i64 fo, .int .i64 le, .int .i64 si, .int .i64 bm, .int .i64 bi, .slice fa fl.length fcc] 34)
            case first =>
              refine wp_region_rest (fun i => i ≠ wr.heap.size) 12 (by kernel_rfl) rfl ?_
              intro wd hbd
              have HRd := Lib.hid (HRb.out.on hbd)
              have HAd := Lib.hid (HAb.out.bel hbd)
              have lc2 := HAd.out.laterCell (G := fun i => i ≠ wr.heap.size) (fun h => h rfl) 2 (v := .int .i64 si) rfl
              have lc5 := HAd.out.laterCell (G := fun i => i ≠ wr.heap.size) (fun h => h rfl) 5 (v := .slice fa fl.length fcc) rfl
              clear hbd
              refine rest_step [0, 1, 2, 3, 5, 6, 7, 8] [4, 9] (by kernel_rfl) (fun _ _ d _ _ h => by cases d <;> exact h) (by kernel_rfl) rfl (by kernel_rfl) (by decide) rfl ?_
              simp only [pickOps, nth, Act.put, List.setIfInBounds_toArray, List.set_cons_succ, List.set_cons_zero]
              haveI : Nonempty World := ⟨w⟩
              (repeat (go_big_quiet_step (fail)))
              refine wpQuiet_nil ?_
              clear lc2 lc5
              refine all2 ?_ ?_
              · skip
                simp only [pickOps, nth, Act.put, List.setIfInBounds_toArray, List.set_cons_succ, List.set_cons_zero]
                go_wp2_with (refine (put_walk (si % 4294967296) _ ⟨by omega, by omega⟩).mono ?_; rintro e' wp ⟨app, cpp, rfl, hr, hb⟩; have HWp := Lib.hid hr; have HRp := Lib.hid (HRd.out.on hb); have HBp := Lib.hid hb; have HAp := Lib.hid (HAd.out.bel hb); clear hr hb)
                refine ⟨Ke.below _ HBp.out, rest_step [] [9] (by kernel_rfl) (fun _ _ d _ _ h => by cases d <;> exact h) (by kernel_rfl) rfl (by kernel_rfl) (by decide) rfl ?_⟩
                simp only [pickOps, nth, Act.put, List.setIfInBounds_toArray, List.set_cons_succ, List.set_cons_zero]
                refine wpQuiet_nil ?_
                refine all1 ?_
                simp only [pickOps, nth, Act.put, List.setIfInBounds_toArray, List.set_cons_succ, List.set_cons_zero]
                go_wp2_with (fail)
                have h2 : RdI .u8 (wp.alloc (.cells #[.int .u8 ((fl.length : Int) % 256)] 5)) (some ⟨wp.heap.size, 0, none⟩) 1 [(fl.length : Int) % 256] := rd_lit8 wp [(fl.length : Int) % 256] (one_byte _) (show 1 ≤ 1000 by decide)
                have HADD : Hid (Calls Try.prog 62 #[.slice (some ⟨wp.heap.size + 1, 0, none⟩) 2 2, .pointer (some ⟨w.heap.size + 1 + 1, 0, none⟩)] ((wp.alloc (.cells #[.int .u8 ((fl.length : Int) % 256)] 5)).alloc (.cells #[.slice app 4 cpp, .slice (some ⟨wp.heap.size, 0, none⟩) 1 1] 46)) fun e w' => e = .returned (.tuple #[]) ∧ Stp w (((wp.alloc (.cells #[.int .u8 ((fl.length : Int) % 256)] 5)).alloc (.cells #[.slice app 4 cpp, .slice (some ⟨wp.heap.size, 0, none⟩) 1 1] 46))) w.heap.size (w.heap.size + 1 + 1) (301 + 2300 * k + 1) #[.string nm, .slice a1 l1.length c1, .slice (some ⟨b2, o2, none⟩) l2.length c2, .slice a3 l3.length c3] (((([(l1.length : Int) % 256] ++ l1.flatMap impF) ++ [(l2.length : Int) % 256]) ++ (l2.take k).flatMap (fun x => typF x.d)) ++ [fo % 256]) (wordB (si % 4294967296) ++ [(fl.length : Int) % 256]) w') := Lib.hid (by
                  have := add_of2 (HRp.out.on (bel1 wp (.cells #[.int .u8 ((fl.length : Int) % 256)] 5))) (HWp.out.below (bel1 wp (.cells #[.int .u8 ((fl.length : Int) % 256)] 5)) (Nat.le_refl _)) h2 (wordB_len _) (show [(fl.length : Int) % 256].length = 1 from rfl) (show 4 + 1 ≤ 1000 by decide) (by have := HK2.out; omega)
                  rw [show (wp.alloc (.cells #[.int .u8 ((fl.length : Int) % 256)] 5)).heap.size = wp.heap.size + 1 by simp] at this
                  exact this)
                clear h2
                refine ⟨Ke.below _ (bel1 _ _), rest_step [] [10] (by kernel_rfl) (fun _ _ d _ _ h => by cases d <;> exact h) (by kernel_rfl) rfl (by kernel_rfl) (by decide) rfl ?_⟩
                simp only [pickOps, nth, Act.put, List.setIfInBounds_toArray, List.set_cons_succ, List.set_cons_zero]
                refine wpQuiet_nil ?_
                refine all1 ?_
                simp only [pickOps, nth, Act.put, List.setIfInBounds_toArray, List.set_cons_succ, List.set_cons_zero]
                go_wp2_with (fail)
                refine ⟨Ke.below _ (bel1 _ _), rest_step [] [11] (by kernel_rfl) (fun _ _ d _ _ h => by cases d <;> exact h) (by kernel_rfl) rfl (by kernel_rfl) (by decide) rfl ?_⟩
                simp only [pickOps, nth, Act.put, List.setIfInBounds_toArray, List.set_cons_succ, List.set_cons_zero]
                refine wpQuiet_nil ?_
                refine all1 ?_
                simp only [pickOps, nth, Act.put, List.setIfInBounds_toArray, List.set_cons_succ, List.set_cons_zero]
                go_wp2_with (refine HADD.out.mono ?_; rintro e' wz ⟨rfl, hst⟩; have HST := Lib.hid hst; clear hst)
                refine ⟨HST.out.2.2 _ (fun i hi => by obtain rfl : i = wr.heap.size := Classical.not_not.1 hi; exact ⟨HGX.out, .inr ⟨#[.int .i64 fo, .int .i64 le, .int .i64 si, .int .i64 bm, .int .i64 bi, .slice fa fl.length fcc], 34, (HAp.out.bel (bel2 _ _ _)), by decide⟩⟩), rest_end [] (by kernel_rfl) (fun _ _ d _ _ h => by cases d <;> exact h) (by kernel_rfl) (by kernel_rfl) rfl ?_⟩
                simp only [pickOps, nth, Act.put, List.setIfInBounds_toArray, List.set_cons_succ, List.set_cons_zero]
                refine wpQuiet_nil ?_
                go_wp2_with (fail)
                go_meet
                refine ⟨?_, HST.out.2.1 _ _ _ (HAp.out.bel (bel2 _ _ _)) (by decide) HGX.out⟩
                have hh := HST.out.1
                rw [wordB_mod] at hh
                exact hh.more (by rw [List.length_append, wordB_len]; show _ + (4 + 1) ≤ _; omega)
              · skip
                simp only [pickOps, nth, Act.put, List.setIfInBounds_toArray, List.set_cons_succ, List.set_cons_zero]
                go_wp2_with (fail)
                have h2 : RdI .u8 (wd.alloc (.cells #[.int .u8 ((fl.length : Int) % 256)] 5)) (some ⟨wd.heap.size, 0, none⟩) 1 [(fl.length : Int) % 256] := rd_lit8 wd [(fl.length : Int) % 256] (one_byte _) (show 1 ≤ 1000 by decide)
                have H2 := Lib.hid h2
                have HRd2 := Lib.hid (HRd.out.on (bel1 wd (.cells #[.int .u8 ((fl.length : Int) % 256)] 5)))
                have HAd2 := Lib.hid (HAd.out.bel (bel1 wd (.cells #[.int .u8 ((fl.length : Int) % 256)] 5)))
                clear h2
                refine ⟨Ke.below _ (bel1 _ _), rest_step [] [4] (by kernel_rfl) (fun _ _ d _ _ h => by cases d <;> exact h) (by kernel_rfl) rfl (by kernel_rfl) (by decide) rfl ?_⟩
                simp only [pickOps, nth, Act.put, List.setIfInBounds_toArray, List.set_cons_succ, List.set_cons_zero]
                refine wpQuiet_nil ?_
                refine all1 ?_
                simp only [pickOps, nth, Act.put, List.setIfInBounds_toArray, List.set_cons_succ, List.set_cons_zero]
                go_wp2_with (refine (put_walk (si % 4294967296) _ ⟨by omega, by omega⟩).mono ?_; rintro e' wp ⟨app, cpp, rfl, hr, hb⟩; have HWp := Lib.hid hr; have HRp := Lib.hid (HRd2.out.on hb); have HBp := Lib.hid hb; have HAp := Lib.hid (HAd2.out.bel hb); have H2p := Lib.hid (H2.out.below hb (Nat.le_refl _)); clear hr hb)
                have HADD : Hid (Calls Try.prog 62 #[.slice (some ⟨wp.heap.size, 0, none⟩) 2 2, .pointer (some ⟨w.heap.size + 1 + 1, 0, none⟩)] (wp.alloc (.cells #[.slice app 4 cpp, .slice (some ⟨wd.heap.size, 0, none⟩) 1 1] 46)) fun e w' => e = .returned (.tuple #[]) ∧ Stp w ((wp.alloc (.cells #[.slice app 4 cpp, .slice (some ⟨wd.heap.size, 0, none⟩) 1 1] 46))) w.heap.size (w.heap.size + 1 + 1) (301 + 2300 * k + 1) #[.string nm, .slice a1 l1.length c1, .slice (some ⟨b2, o2, none⟩) l2.length c2, .slice a3 l3.length c3] (((([(l1.length : Int) % 256] ++ l1.flatMap impF) ++ [(l2.length : Int) % 256]) ++ (l2.take k).flatMap (fun x => typF x.d)) ++ [fo % 256]) (wordB (si % 4294967296) ++ [(fl.length : Int) % 256]) w') := Lib.hid (add_of2 HRp.out HWp.out H2p.out (wordB_len _) (show [(fl.length : Int) % 256].length = 1 from rfl) (show 4 + 1 ≤ 1000 by decide) (by have := HK2.out; omega))
                refine ⟨Ke.below _ HBp.out, rest_step [] [10] (by kernel_rfl) (fun _ _ d _ _ h => by cases d <;> exact h) (by kernel_rfl) rfl (by kernel_rfl) (by decide) rfl ?_⟩
                simp only [pickOps, nth, Act.put, List.setIfInBounds_toArray, List.set_cons_succ, List.set_cons_zero]
                refine wpQuiet_nil ?_
                refine all1 ?_
                simp only [pickOps, nth, Act.put, List.setIfInBounds_toArray, List.set_cons_succ, List.set_cons_zero]
                go_wp2_with (fail)
                refine ⟨Ke.below _ (bel1 _ _), rest_step [] [11] (by kernel_rfl) (fun _ _ d _ _ h => by cases d <;> exact h) (by kernel_rfl) rfl (by kernel_rfl) (by decide) rfl ?_⟩
                simp only [pickOps, nth, Act.put, List.setIfInBounds_toArray, List.set_cons_succ, List.set_cons_zero]
                refine wpQuiet_nil ?_
                refine all1 ?_
                simp only [pickOps, nth, Act.put, List.setIfInBounds_toArray, List.set_cons_succ, List.set_cons_zero]
                go_wp2_with (refine HADD.out.mono ?_; rintro e' wz ⟨rfl, hst⟩; have HST := Lib.hid hst; clear hst)
                refine ⟨HST.out.2.2 _ (fun i hi => by obtain rfl : i = wr.heap.size := Classical.not_not.1 hi; exact ⟨HGX.out, .inr ⟨#[.int .i64 fo, .int .i64 le, .int .i64 si, .int .i64 bm, .int .i64 bi, .slice fa fl.length fcc], 34, (HAp.out.bel (bel1 _ _)), by decide⟩⟩), rest_end [] (by kernel_rfl) (fun _ _ d _ _ h => by cases d <;> exact h) (by kernel_rfl) (by kernel_rfl) rfl ?_⟩
                simp only [pickOps, nth, Act.put, List.setIfInBounds_toArray, List.set_cons_succ, List.set_cons_zero]
                refine wpQuiet_nil ?_
                go_wp2_with (fail)
                go_meet
                refine ⟨?_, HST.out.2.1 _ _ _ (HAp.out.bel (bel1 _ _)) (by decide) HGX.out⟩
                have hh := HST.out.1
                rw [wordB_mod] at hh
                exact hh.more (by rw [List.length_append, wordB_len]; show _ + (4 + 1) ≤ _; omega)
            case rest =>
              obtain ⟨hr3, ha3⟩ := hcut
              have HR3 := Lib.hid hr3
              have HA3 := Lib.hid ha3
              clear hr3 ha3
              skip
              obtain ⟨wt, rfl⟩ : ∃ wt : World, wt = wr := ⟨wr, rfl⟩
              have g5 := (HA3.out.cell 5).trans (show _ = some (.slice fa fl.length fcc) from rfl)
              have HXT := HX
              have HLTT := HLT
              have HGT := HGX
              clear HX HLT HGX
              obtain ⟨bF, oF, hatF, hcellF⟩ := HRF.out.at'
              have HATF := Lib.hid hatF
              have HCF := Lib.hid hcellF
              have HOKF := Lib.hid HRF.out.all
              dsimp only at HATF HCF HOKF
              clear hatF hcellF HRF
              have f1 : True := trivial
              have f2 : True := trivial
              have f3 : True := trivial
              go_wp2_with (fail)
              go_loopw [82] (fun i wy => ∃ j : Nat, i = .int .i64 j ∧ j ≤ fl.length ∧ RS w wy w.heap.size (w.heap.size + 1 + 1) (301 + 2300 * k + 6 + 22 * j) #[.string nm, .slice a1 l1.length c1, .slice (some ⟨b2, o2, none⟩) l2.length c2, .slice a3 l3.length c3] (((((([(l1.length : Int) % 256] ++ l1.flatMap impF) ++ [(l2.length : Int) % 256]) ++ (l2.take k).flatMap (fun x => typF x.d)) ++ [fo % 256]) ++ (wordB si ++ [(fl.length : Int) % 256])) ++ (fl.take j).flatMap fldF) ∧ At wy wt.heap.size #[.int .i64 fo, .int .i64 le, .int .i64 si, .int .i64 bm, .int .i64 bi, .slice fa fl.length fcc] 34) (fun i _ => fl.length - (intOf i).toNat)
              case atStart => exact ⟨0, rfl, Nat.zero_le _, by rw [List.take_zero, List.flatMap_nil, List.append_nil]; exact HR3.out, HA3.out⟩
              case round =>
                obtain ⟨j, rfl, hj, hr, ht⟩ := hrel
                have HRy := Lib.hid hr
                have HTy := Lib.hid ht
                clear hr ht g5 HR3 HA3
                skip
                by_cases hlt : j < fl.length
                · obtain ⟨⟨xn, xo, ⟨pm, pi⟩⟩, hx⟩ := get_lt hlt
                  have HX := Lib.hid hx
                  have HLT := Lib.hid hlt
                  obtain ⟨rfl, hb⟩ := HATF.out (by omega)
                  have HCO : Hid (∀ (q : Nat) (y : Value), ([.string xn, .int .i64 xo, .int .i64 pm, .int .i64 pi] : List Value)[q]? = some y → wr.cell? ⟨bF, oF + j * 4 + q, none⟩ = some y) := Lib.hid (fun q y hy => (HRy.out.bel.cell (p := ⟨bF, oF + j * 4 + q, none⟩) hb).trans (HCF.out j _ hx q y hy))
                  have hok := HOKF.out _ (List.mem_of_getElem? hx)
                  obtain ⟨_, ⟨q1, q1'⟩, ⟨q2, q2'⟩, q3, q3'⟩ := hok
                  dsimp only at q1 q1' q2 q2' q3 q3'
                  have HXN : Hid (xn.size ≤ 15) := Lib.hid (HFN.out _ (List.mem_of_getElem? hx))
                  have HXL : Hid ((nameB xn).length ≤ 16) := Lib.hid (by rw [nameB_len]; have := HXN.out; omega)
                  have HJ : Hid (j < 100) := Lib.hid (by have := HFL.out; omega)
                  clear hx hb
                  go_wp2_with (first | (have _f := f1; refine wpList_load_mid rfl 37 (.tmp 84) rfl bF (oF + j * 4) rfl [.string xn, .int .i64 xo, .int .i64 pm, .int .i64 pi] _ HCO.out Try.underlying37 rfl (by kernel_rfl) ?_; clear _f f1) | (have _f := f2; refine alloc_sep rfl 37 rfl (HSN.out _) (z := .agg #[.string ⟨#[]⟩, .int .i64 0, .int .i64 0, .int .i64 0]) (cs := #[.string ⟨#[]⟩, .int .i64 0, .int .i64 0, .int .i64 0]) (by kernel_rfl) rfl ?_; intro wc S' b' s'; have HSc := Lib.hid S'; have HBc := Lib.hid b'; clear S' b' s' _f f2) | (have _f := f3; refine store_sep (cells := #[.string xn, .int .i64 xo, .int .i64 pm, .int .i64 pi]) rfl 37 (.tmp 10) (.tmp 85) rfl HSc.out 0 rfl rfl rfl (by kernel_rfl) rfl rfl ?_; intro wf S' k' s'; have HAe : Hid (At wf wr.heap.size #[.string xn, .int .i64 xo, .int .i64 pm, .int .i64 pi] 37) := Lib.hid (S'.at 0 rfl); have hbe : Below wr.heap.size wr wf := ((Ke.below (· = wr.heap.size) HBc.out).trans k').toBelow (fun i hi e => absurd e (Nat.ne_of_lt hi)); have HRe := Lib.hid (HRy.out.on hbe); have HGX : Hid (¬ wr.heap.size = (w.heap.size + 1 + 1)) := Lib.hid (Nat.ne_of_gt HRy.out.glt); have HTe := Lib.hid (HTy.out.bel hbe); clear S' k' s' hbe _f f3))
                  refine wp_region_tail [([0, 1, 2, 4, 5, 6, 8, 9], 3), ([], 7), ([], 10), ([], 11)] [] 12 [11, 10, 9, 8, 7, 6, 5, 4, 3, 2, 1, 0] (by kernel_rfl) (by kernel_rfl) (fun _ _ d _ _ h => by cases d <;> exact h) ?_
                  intro wd hbd
                  have HRd := Lib.hid (HRe.out.on hbd)
                  have HAd := Lib.hid (HAe.out.bel hbd)
                  have HTd := Lib.hid (HTe.out.bel hbd)
                  have lc0 := HAd.out.laterCellB 0 (v := .string xn) rfl
                  have lc1 := HAd.out.laterCellB 1 (v := .int .i64 xo) rfl
                  have ls95 := fun x => (HAd.out.laterB x).loads2 (P := Try.prog) (o := 2) [.int .i64 pm, .int .i64 pi] (fun j v hj => by match j, hj with | 0, hj => exact hj | 1, hj => exact hj) Try.underlying30 rfl (by kernel_rfl)
                  refine mixT_step ?_
                  simp only [pickOps, nth, Act.put, List.setIfInBounds_toArray, List.set_cons_succ, List.set_cons_zero]
                  haveI : Nonempty World := ⟨w⟩
                  (repeat (go_big_quiet_step (fail)))
                  (go_big_quiet_want; refine quiet_row2 30 (.tmp 94) rfl rfl ls95 ?_; go_big_quiet_on)
                  simp only [pickOps, nth, Act.put, List.setIfInBounds_toArray, List.set_cons_succ, List.set_cons_zero]
                  (repeat (go_big_quiet_step (fail)))
                  refine wpQuiet_nil ?_
                  clear lc0 lc1 ls95 hbd
                  go_wp2_with (refine (name8_walk xn _ (by have := HXN.out; omega)).mono ?_; rintro e' w5 ⟨an5, cn5, rfl, hr, hb⟩; have HN5 := Lib.hid hr; have HR5 := Lib.hid (HRd.out.on hb); have HB5 := Lib.hid hb; have HT5 := Lib.hid (HTd.out.bel hb); clear hr hb)
                  refine ⟨HB5.out, mixT_step ?_⟩
                  simp only [pickOps, nth, Act.put, List.setIfInBounds_toArray, List.set_cons_succ, List.set_cons_zero]
                  refine wpQuiet_nil ?_
                  go_wp2_with (refine (put_walk (xo % 4294967296) _ ⟨by omega, by omega⟩).mono ?_; rintro e' w6 ⟨ap6, cp6, rfl, hr, hb⟩; have HW6 := Lib.hid hr; have HR6 := Lib.hid (HR5.out.on hb); have HB6 := Lib.hid hb; have HT6 := Lib.hid (HT5.out.bel hb); have HN6 := Lib.hid (HN5.out.below hb (Nat.le_refl _)); clear hr hb)
                  refine ⟨HB6.out, mixT_step ?_⟩
                  simp only [pickOps, nth, Act.put, List.setIfInBounds_toArray, List.set_cons_succ, List.set_cons_zero]
                  refine wpQuiet_nil ?_
                  go_wp2_with (refine (refBytes8_walk ⟨pm, pi⟩ _).mono ?_; rintro e' w7 ⟨ar7, cr7, rfl, hr, hb⟩; have HF7 := Lib.hid hr; have HR7 := Lib.hid (HR6.out.on hb); have HB7 := Lib.hid hb; have HT7 := Lib.hid (HT6.out.bel hb); have HN7 := Lib.hid (HN6.out.below hb (Nat.le_refl _)); have HW7 := Lib.hid (HW6.out.below hb (Nat.le_refl _)); clear hr hb)
                  refine ⟨HB7.out, mixT_step ?_⟩
                  simp only [pickOps, nth, Act.put, List.setIfInBounds_toArray, List.set_cons_succ, List.set_cons_zero]
                  refine wpQuiet_nil ?_
                  go_wp2_with (fail)
                  refine ⟨bel1 _ _, mixT_end ?_⟩
                  simp only [pickOps, nth, Act.put, List.setIfInBounds_toArray, List.set_cons_succ, List.set_cons_zero]
                  refine wpQuiet_nil ?_
                  go_wp2_with (refine (add_of3 HR7.out HN7.out HW7.out HF7.out rfl (wordB_len _) (show (refB2 _).length = 2 from rfl) (by have := HXL.out; omega) (by have := HK2.out; have := HJ.out; omega)).mono ?_; rintro e' w8 ⟨rfl, hst⟩; have HST := Lib.hid hst; clear hst)
                  go_roundw
                  case rel =>
                    refine ⟨j + 1, by go_num, HLT.out, ?_, HST.out.2.1 _ _ _ (HT7.out.bel (bel1 _ _)) (by decide) HGT.out⟩
                    have hh := HST.out.1
                    rw [wordB_mod] at hh
                    rw [take_flatF HX.out fldF, ← List.append_assoc]
                    exact hh.more (by simp only [List.length_append, wordB_len]; rw [show (refB2 ⟨pm, pi⟩).length = 2 from rfl]; have := HXL.out; omega)
                  case measure => simp [intOf]; have := HLT.out; omega
                · obtain rfl : j = fl.length := by omega
                  go_wp2_with (fail)
                  go_roundw
                  case rel =>
                    refine ⟨k + 1, by go_num, HLTT.out, ?_⟩
                    rw [take_flatF HXT.out (fun x => typF x.d), ← List.append_assoc]
                    have hh := HRy.out
                    rw [List.take_length] at hh
                    rw [show typF (FT.d ⟨fo, le, si, ⟨bm, bi⟩, ⟨_, fcc, fl⟩⟩) = _ from HTY.out]
                    simp only [List.append_assoc] at hh ⊢
                    exact hh.more (by have := HFL.out; omega)
                  case measure => simp [intOf]; have := HLTT.out; omega
        · obtain rfl : k = l2.length := by omega
          have HR4 : Hid (RS w wr w.heap.size (w.heap.size + 1 + 1) (465000) #[.string nm, .slice a1 l1.length c1, .slice a2 l2.length c2, .slice a3 l3.length c3] ((([(l1.length : Int) % 256] ++ l1.flatMap impF) ++ [(l2.length : Int) % 256]) ++ l2.flatMap (fun x => typF x.d))) := Lib.hid (by have := HR.out; rw [List.take_length] at this; exact this.more (by have := HSMn.out; omega))
          clear hk HR
          have g3 := (HR4.out.face.cell 3).trans (show _ = some (.slice a3 l3.length c3) from rfl)
          have f10 : True := trivial
          have f11 : True := trivial
          go_wp2_with (first | (have _f := f10; refine (put_walk ((l3.length : Int) % 4294967296) _ ⟨by omega, by omega⟩).mono ?_; rintro e' w5 ⟨ap5, cp5, rfl, hr, hb⟩; have HW5 := Lib.hid hr; have HR5 := Lib.hid (HR4.out.on hb); have HB5 := Lib.hid hb; clear hr hb; clear _f f10) | (have _f := f11; refine (add_of1 HR5.out HW5.out (wordB_len _) (show 4 ≤ 1000 by decide) (show 465000 ≤ 3000000 by decide)).mono ?_; rintro e' wa ⟨rfl, hst⟩; have HR6 : Hid (RS w wa w.heap.size (w.heap.size + 1 + 1) (470000) #[.string nm, .slice a1 l1.length c1, .slice a2 l2.length c2, .slice a3 l3.length c3] (((([(l1.length : Int) % 256] ++ l1.flatMap impF) ++ [(l2.length : Int) % 256]) ++ l2.flatMap (fun x => typF x.d)) ++ wordB l3.length)) := Lib.hid (by have hh := hst.1; rw [wordB_mod] at hh; exact hh.more (by rw [wordB_len]; decide)); have g3 := (HR6.out.face.cell 3).trans (show _ = some (.slice a3 l3.length c3) from rfl); clear hst _f f11))
          clear g3 HR4
          go_loopw [129] (fun i wr => ∃ k : Nat, i = .int .i64 k ∧ k ≤ l3.length ∧ RS w wr w.heap.size (w.heap.size + 1 + 1) (470000 + 60 * k) #[.string nm, .slice a1 l1.length c1, .slice a2 l2.length c2, .slice a3 l3.length c3] ((((([(l1.length : Int) % 256] ++ l1.flatMap impF) ++ [(l2.length : Int) % 256]) ++ l2.flatMap (fun x => typF x.d)) ++ wordB l3.length) ++ (l3.take k).flatMap (fun x => objF x.d))) (fun i _ => l3.length - (intOf i).toNat)
          case atStart => exact ⟨0, rfl, Nat.zero_le _, by rw [List.take_zero, List.flatMap_nil, List.append_nil]; exact HR6.out⟩
          case round =>
            obtain ⟨k, rfl, hk, hr⟩ := hrel
            have HR := Lib.hid hr
            clear hr
            obtain ⟨wt, rfl⟩ : ∃ wt : World, wt = wr := ⟨wr, rfl⟩
            by_cases hlt : k < l3.length
            · obtain ⟨⟨cl, xn, ⟨bm, bi⟩, vl, ⟨pa, pcc, pl⟩⟩, hx⟩ := get_lt hlt
              have HX := Lib.hid hx
              have HLT := Lib.hid hlt
              obtain ⟨rfl, hb⟩ := HAT3.out (by omega)
              have HCO : Hid (∀ (q : Nat) (y : Value), ([.int .i64 cl, .string xn, .int .i64 bm, .int .i64 bi, .int .u32 vl, .slice pa pl.length pcc] : List Value)[q]? = some y → wt.cell? ⟨b3, o3 + k * 6 + q, none⟩ = some y) := Lib.hid (fun q y hy => (HR.out.bel.cell (p := ⟨b3, o3 + k * 6 + q, none⟩) hb).trans (HC3.out k _ hx q y hy))
              have hok := HOK3.out _ (List.mem_of_getElem? hx)
              obtain ⟨⟨q1, q1'⟩, _, ⟨⟨q4, q4'⟩, q5, q5'⟩, ⟨q2, q2'⟩, q6⟩ := hok
              dsimp only at q1 q1' q2 q2' q4 q4' q5 q5' q6
              have HRP := Lib.hid q6
              have hpl := q6.len
              dsimp only at hpl
              have HPL : Hid (pl.length ≤ 12) := Lib.hid (HSM.out.params _ (List.mem_of_getElem? hx))
              have HXN : Hid (xn.size ≤ 15) := Lib.hid (HSM.out.onames _ (List.mem_of_getElem? hx))
              have HXL : Hid ((nameB xn).length ≤ 16) := Lib.hid (by rw [nameB_len]; have := HXN.out; omega)
              have HK3 : Hid (k < 900) := Lib.hid (by have := HSMn.out; omega)
              clear hx hb q6
              go_wp2_with (first | (have _f := f1; refine wpList_load_mid rfl 42 (.tmp 131) rfl b3 (o3 + k * 6) rfl [.int .i64 cl, .string xn, .int .i64 bm, .int .i64 bi, .int .u32 vl, .slice pa pl.length pcc] _ HCO.out Try.underlying42 rfl (by kernel_rfl) ?_; clear _f f1) | (have _f := f2; refine alloc_sep rfl 42 rfl (HSN.out _) (z := .agg #[.int .i64 0, .string ⟨#[]⟩, .int .i64 0, .int .i64 0, .int .u32 0, .slice none 0 0]) (cs := #[.int .i64 0, .string ⟨#[]⟩, .int .i64 0, .int .i64 0, .int .u32 0, .slice none 0 0]) (by kernel_rfl) rfl ?_; intro wc S' b' s'; have HSc := Lib.hid S'; have HBc := Lib.hid b'; clear S' b' s' _f f2) | (have _f := f3; refine store_sep (cells := #[.int .i64 cl, .string xn, .int .i64 bm, .int .i64 bi, .int .u32 vl, .slice pa pl.length pcc]) rfl 42 (.tmp 12) (.tmp 132) rfl HSc.out 0 rfl rfl rfl (by kernel_rfl) rfl rfl ?_; intro we S' k' s'; have HAe : Hid (At we wt.heap.size #[.int .i64 cl, .string xn, .int .i64 bm, .int .i64 bi, .int .u32 vl, .slice pa pl.length pcc] 42) := Lib.hid (S'.at 0 rfl); have hbe : Below wt.heap.size wt we := ((Ke.below (· = wt.heap.size) HBc.out).trans k').toBelow (fun i hi e => absurd e (Nat.ne_of_lt hi)); have HRe := Lib.hid (HR.out.on hbe); have HGX : Hid (¬ wt.heap.size = (w.heap.size + 1 + 1)) := Lib.hid (Nat.ne_of_gt HR.out.glt); clear S' k' s' hbe _f f3))
              go_cut [144] (fun _ wx => RS w wx w.heap.size (w.heap.size + 1 + 1) (470000 + 60 * k + 19) #[.string nm, .slice a1 l1.length c1, .slice a2 l2.length c2, .slice (some ⟨b3, o3, none⟩) l3.length c3] (((((([(l1.length : Int) % 256] ++ l1.flatMap impF) ++ [(l2.length : Int) % 256]) ++ l2.flatMap (fun x => typF x.d)) ++ wordB l3.length) ++ (l3.take k).flatMap (fun x => objF x.d)) ++ ([cl % 256] ++ (nameB xn ++ refB2 ⟨bm, bi⟩))) ∧ At wx wt.heap.size #[.int .i64 cl, .string xn, .int .i64 bm, .int .i64 bi, .int .u32 vl, .slice pa pl.length pcc] 42)
              case first =>
                refine wp_region_rest (fun i => i ≠ wt.heap.size) 13 (by kernel_rfl) rfl ?_
                intro wd hbd
                have HRd := Lib.hid (HRe.out.on hbd)
                have HAd := Lib.hid (HAe.out.bel hbd)
                have lc0 := HAd.out.laterCell (G := fun i => i ≠ wt.heap.size) (fun h => h rfl) 0 (v := .int .i64 cl) rfl
                have lc1 := HAd.out.laterCell (G := fun i => i ≠ wt.heap.size) (fun h => h rfl) 1 (v := .string xn) rfl
                have ls := fun x => (HAd.out.later (G := fun i => i ≠ wt.heap.size) (fun h => h rfl) x).loads2 (P := Try.prog) (o := 2) [.int .i64 bm, .int .i64 bi] (fun j v hj => by match j, hj with | 0, hj => exact hj | 1, hj => exact hj) Try.underlying30 rfl (by kernel_rfl)
                clear hbd
                refine rest_step [0, 1, 2, 3, 5, 6, 8, 9] [4, 7] (by kernel_rfl) (fun _ _ d _ _ h => by cases d <;> exact h) (by kernel_rfl) rfl (by kernel_rfl) (by decide) rfl ?_
                simp only [pickOps, nth, Act.put, List.setIfInBounds_toArray, List.set_cons_succ, List.set_cons_zero]
                haveI : Nonempty World := ⟨w⟩
                (repeat (go_big_quiet_step (fail)))
                (go_big_quiet_want; refine quiet_row2 30 (.tmp 141) rfl rfl ls ?_; go_big_quiet_on)
                simp only [pickOps, nth, Act.put, List.setIfInBounds_toArray, List.set_cons_succ, List.set_cons_zero]
                (repeat (go_big_quiet_step (fail)))
                refine wpQuiet_nil ?_
                clear lc0 lc1 ls
                refine all2 ?_ ?_
                · skip
                  simp only [pickOps, nth, Act.put, List.setIfInBounds_toArray, List.set_cons_succ, List.set_cons_zero]
                  go_wp2_with (fail)
                  have H2 : Hid (RdI .u8 (wd.alloc (.cells #[.int .u8 (cl % 256)] 5)) (some ⟨wd.heap.size, 0, none⟩) 1 [cl % 256]) := Lib.hid (rd_lit8 wd [cl % 256] (one_byte _) (show 1 ≤ 1000 by decide))
                  have HRd2 := Lib.hid (HRd.out.on (bel1 wd (.cells #[.int .u8 (cl % 256)] 5)))
                  have HAd2 := Lib.hid (HAd.out.bel (bel1 wd (.cells #[.int .u8 (cl % 256)] 5)))
                  refine ⟨Ke.below _ (bel1 _ _), rest_step [] [7] (by kernel_rfl) (fun _ _ d _ _ h => by cases d <;> exact h) (by kernel_rfl) rfl (by kernel_rfl) (by decide) rfl ?_⟩
                  simp only [pickOps, nth, Act.put, List.setIfInBounds_toArray, List.set_cons_succ, List.set_cons_zero]
                  refine wpQuiet_nil ?_
                  refine all1 ?_
                  simp only [pickOps, nth, Act.put, List.setIfInBounds_toArray, List.set_cons_succ, List.set_cons_zero]
                  go_wp2_with (refine (name8_walk xn _ (by have := HXN.out; omega)).mono ?_; rintro e' wn ⟨ann, cnn, rfl, hr, hb⟩; have HNn := Lib.hid hr; have HRn := Lib.hid (HRd2.out.on hb); have HBn := Lib.hid hb; have HAn := Lib.hid (HAd2.out.bel hb); have H2n := Lib.hid (H2.out.below hb (Nat.le_refl _)); clear hr hb)
                  refine ⟨Ke.below _ HBn.out, rest_step [] [10] (by kernel_rfl) (fun _ _ d _ _ h => by cases d <;> exact h) (by kernel_rfl) rfl (by kernel_rfl) (by decide) rfl ?_⟩
                  simp only [pickOps, nth, Act.put, List.setIfInBounds_toArray, List.set_cons_succ, List.set_cons_zero]
                  refine wpQuiet_nil ?_
                  refine all1 ?_
                  simp only [pickOps, nth, Act.put, List.setIfInBounds_toArray, List.set_cons_succ, List.set_cons_zero]
                  go_wp2_with (refine (refBytes8_walk ⟨bm, bi⟩ _).mono ?_; rintro e' wf ⟨arf, crf, rfl, hr, hb⟩; have HFf := Lib.hid hr; have HRf := Lib.hid (HRn.out.on hb); have HBf := Lib.hid hb; have HAf := Lib.hid (HAn.out.bel hb); have H2f := Lib.hid (H2n.out.below hb (Nat.le_refl _)); have HNf := Lib.hid (HNn.out.below hb (Nat.le_refl _)); clear hr hb)
                  have HADD : Hid (Calls Try.prog 62 #[.slice (some ⟨wf.heap.size, 0, none⟩) 3 3, .pointer (some ⟨w.heap.size + 1 + 1, 0, none⟩)] (wf.alloc (.cells #[.slice (some ⟨wd.heap.size, 0, none⟩) 1 1, .slice ann (nameB xn).length cnn, .slice arf 2 crf] 46)) (fun e w' => e = .returned (.tuple #[]) ∧ Stp w (wf.alloc (.cells #[.slice (some ⟨wd.heap.size, 0, none⟩) 1 1, .slice ann (nameB xn).length cnn, .slice arf 2 crf] 46)) w.heap.size (w.heap.size + 1 + 1) (470000 + 60 * k) #[.string nm, .slice a1 l1.length c1, .slice a2 l2.length c2, .slice (some ⟨b3, o3, none⟩) l3.length c3] ((((([(l1.length : Int) % 256] ++ l1.flatMap impF) ++ [(l2.length : Int) % 256]) ++ l2.flatMap (fun x => typF x.d)) ++ wordB l3.length) ++ (l3.take k).flatMap (fun x => objF x.d)) ([cl % 256] ++ (nameB xn ++ refB2 ⟨bm, bi⟩)) w')) := Lib.hid (by
                    have := add_of3 HRf.out H2f.out HNf.out HFf.out (show [cl % 256].length = 1 from rfl) rfl (show (refB2 _).length = 2 from rfl) (by have := HXL.out; omega) (by have := HK3.out; omega)
                    exact this)
                  refine ⟨Ke.below _ HBf.out, rest_step [] [11] (by kernel_rfl) (fun _ _ d _ _ h => by cases d <;> exact h) (by kernel_rfl) rfl (by kernel_rfl) (by decide) rfl ?_⟩
                  simp only [pickOps, nth, Act.put, List.setIfInBounds_toArray, List.set_cons_succ, List.set_cons_zero]
                  refine wpQuiet_nil ?_
                  refine all1 ?_
                  simp only [pickOps, nth, Act.put, List.setIfInBounds_toArray, List.set_cons_succ, List.set_cons_zero]
                  go_wp2_with (fail)
                  refine ⟨Ke.below _ (bel1 _ _), rest_step [] [12] (by kernel_rfl) (fun _ _ d _ _ h => by cases d <;> exact h) (by kernel_rfl) rfl (by kernel_rfl) (by decide) rfl ?_⟩
                  simp only [pickOps, nth, Act.put, List.setIfInBounds_toArray, List.set_cons_succ, List.set_cons_zero]
                  refine wpQuiet_nil ?_
                  refine all1 ?_
                  simp only [pickOps, nth, Act.put, List.setIfInBounds_toArray, List.set_cons_succ, List.set_cons_zero]
                  go_wp2_with (refine HADD.out.mono ?_; rintro e' wz ⟨rfl, hst⟩; have HST := Lib.hid hst; clear hst)
                  refine ⟨HST.out.2.2 _ (fun i hi => by obtain rfl : i = wt.heap.size := Classical.not_not.1 hi; exact ⟨HGX.out, .inr ⟨#[.int .i64 cl, .string xn, .int .i64 bm, .int .i64 bi, .int .u32 vl, .slice pa pl.length pcc], 42, (HAf.out.bel (bel1 _ _)), by decide⟩⟩), rest_end [] (by kernel_rfl) (fun _ _ d _ _ h => by cases d <;> exact h) (by kernel_rfl) (by kernel_rfl) rfl ?_⟩
                  simp only [pickOps, nth, Act.put, List.setIfInBounds_toArray, List.set_cons_succ, List.set_cons_zero]
                  refine wpQuiet_nil ?_
                  go_wp2_with (fail)
                  go_meet
                  refine ⟨?_, HST.out.2.1 _ _ _ (HAf.out.bel (bel1 _ _)) (by decide) HGX.out⟩
                  exact HST.out.1.more (by simp only [List.length_append]; rw [show (refB2 ⟨bm, bi⟩).length = 2 from rfl]; show _ + (1 + _) ≤ _; have := HXL.out; omega)
                · skip
                  simp only [pickOps, nth, Act.put, List.setIfInBounds_toArray, List.set_cons_succ, List.set_cons_zero]
                  go_wp2_with (refine (name8_walk xn _ (by have := HXN.out; omega)).mono ?_; rintro e' wn ⟨ann, cnn, rfl, hr, hb⟩; have HNn := Lib.hid hr; have HRn := Lib.hid (HRd.out.on hb); have HBn := Lib.hid hb; have HAn := Lib.hid (HAd.out.bel hb); clear hr hb)
                  refine ⟨Ke.below _ HBn.out, rest_step [] [4, 10] (by kernel_rfl) (fun _ _ d _ _ h => by cases d <;> exact h) (by kernel_rfl) rfl (by kernel_rfl) (by decide) rfl ?_⟩
                  simp only [pickOps, nth, Act.put, List.setIfInBounds_toArray, List.set_cons_succ, List.set_cons_zero]
                  refine wpQuiet_nil ?_
                  refine all2 ?_ ?_
                  · skip
                    simp only [pickOps, nth, Act.put, List.setIfInBounds_toArray, List.set_cons_succ, List.set_cons_zero]
                    go_wp2_with (fail)
                    have H2 : Hid (RdI .u8 (wn.alloc (.cells #[.int .u8 (cl % 256)] 5)) (some ⟨wn.heap.size, 0, none⟩) 1 [cl % 256]) := Lib.hid (rd_lit8 wn [cl % 256] (one_byte _) (show 1 ≤ 1000 by decide))
                    have HRn2 := Lib.hid (HRn.out.on (bel1 wn (.cells #[.int .u8 (cl % 256)] 5)))
                    have HAn2 := Lib.hid (HAn.out.bel (bel1 wn (.cells #[.int .u8 (cl % 256)] 5)))
                    have HNn2 := Lib.hid (HNn.out.below (bel1 wn (.cells #[.int .u8 (cl % 256)] 5)) (Nat.le_refl _))
                    refine ⟨Ke.below _ (bel1 _ _), rest_step [] [10] (by kernel_rfl) (fun _ _ d _ _ h => by cases d <;> exact h) (by kernel_rfl) rfl (by kernel_rfl) (by decide) rfl ?_⟩
                    simp only [pickOps, nth, Act.put, List.setIfInBounds_toArray, List.set_cons_succ, List.set_cons_zero]
                    refine wpQuiet_nil ?_
                    refine all1 ?_
                    simp only [pickOps, nth, Act.put, List.setIfInBounds_toArray, List.set_cons_succ, List.set_cons_zero]
                    go_wp2_with (refine (refBytes8_walk ⟨bm, bi⟩ _).mono ?_; rintro e' wf ⟨arf, crf, rfl, hr, hb⟩; have HFf := Lib.hid hr; have HRf := Lib.hid (HRn2.out.on hb); have HBf := Lib.hid hb; have HAf := Lib.hid (HAn2.out.bel hb); have H2f := Lib.hid (H2.out.below hb (Nat.le_refl _)); have HNf := Lib.hid (HNn2.out.below hb (Nat.le_refl _)); clear hr hb)
                    have HADD : Hid (Calls Try.prog 62 #[.slice (some ⟨wf.heap.size, 0, none⟩) 3 3, .pointer (some ⟨w.heap.size + 1 + 1, 0, none⟩)] (wf.alloc (.cells #[.slice (some ⟨wn.heap.size, 0, none⟩) 1 1, .slice ann (nameB xn).length cnn, .slice arf 2 crf] 46)) (fun e w' => e = .returned (.tuple #[]) ∧ Stp w (wf.alloc (.cells #[.slice (some ⟨wn.heap.size, 0, none⟩) 1 1, .slice ann (nameB xn).length cnn, .slice arf 2 crf] 46)) w.heap.size (w.heap.size + 1 + 1) (470000 + 60 * k) #[.string nm, .slice a1 l1.length c1, .slice a2 l2.length c2, .slice (some ⟨b3, o3, none⟩) l3.length c3] ((((([(l1.length : Int) % 256] ++ l1.flatMap impF) ++ [(l2.length : Int) % 256]) ++ l2.flatMap (fun x => typF x.d)) ++ wordB l3.length) ++ (l3.take k).flatMap (fun x => objF x.d)) ([cl % 256] ++ (nameB xn ++ refB2 ⟨bm, bi⟩)) w')) := Lib.hid (by
                      have := add_of3 HRf.out H2f.out HNf.out HFf.out (show [cl % 256].length = 1 from rfl) rfl (show (refB2 _).length = 2 from rfl) (by have := HXL.out; omega) (by have := HK3.out; omega)
                      exact this)
                    refine ⟨Ke.below _ HBf.out, rest_step [] [11] (by kernel_rfl) (fun _ _ d _ _ h => by cases d <;> exact h) (by kernel_rfl) rfl (by kernel_rfl) (by decide) rfl ?_⟩
                    simp only [pickOps, nth, Act.put, List.setIfInBounds_toArray, List.set_cons_succ, List.set_cons_zero]
                    refine wpQuiet_nil ?_
                    refine all1 ?_
                    simp only [pickOps, nth, Act.put, List.setIfInBounds_toArray, List.set_cons_succ, List.set_cons_zero]
                    go_wp2_with (fail)
                    refine ⟨Ke.below _ (bel1 _ _), rest_step [] [12] (by kernel_rfl) (fun _ _ d _ _ h => by cases d <;> exact h) (by kernel_rfl) rfl (by kernel_rfl) (by decide) rfl ?_⟩
                    simp only [pickOps, nth, Act.put, List.setIfInBounds_toArray, List.set_cons_succ, List.set_cons_zero]
                    refine wpQuiet_nil ?_
                    refine all1 ?_
                    simp only [pickOps, nth, Act.put, List.setIfInBounds_toArray, List.set_cons_succ, List.set_cons_zero]
                    go_wp2_with (refine HADD.out.mono ?_; rintro e' wz ⟨rfl, hst⟩; have HST := Lib.hid hst; clear hst)
                    refine ⟨HST.out.2.2 _ (fun i hi => by obtain rfl : i = wt.heap.size := Classical.not_not.1 hi; exact ⟨HGX.out, .inr ⟨#[.int .i64 cl, .string xn, .int .i64 bm, .int .i64 bi, .int .u32 vl, .slice pa pl.length pcc], 42, (HAf.out.bel (bel1 _ _)), by decide⟩⟩), rest_end [] (by kernel_rfl) (fun _ _ d _ _ h => by cases d <;> exact h) (by kernel_rfl) (by kernel_rfl) rfl ?_⟩
                    simp only [pickOps, nth, Act.put, List.setIfInBounds_toArray, List.set_cons_succ, List.set_cons_zero]
                    refine wpQuiet_nil ?_
                    go_wp2_with (fail)
                    go_meet
                    refine ⟨?_, HST.out.2.1 _ _ _ (HAf.out.bel (bel1 _ _)) (by decide) HGX.out⟩
                    exact HST.out.1.more (by simp only [List.length_append]; rw [show (refB2 ⟨bm, bi⟩).length = 2 from rfl]; show _ + (1 + _) ≤ _; have := HXL.out; omega)
                  · skip
                    simp only [pickOps, nth, Act.put, List.setIfInBounds_toArray, List.set_cons_succ, List.set_cons_zero]
                    go_wp2_with (refine (refBytes8_walk ⟨bm, bi⟩ _).mono ?_; rintro e' wf ⟨arf, crf, rfl, hr, hb⟩; have HFf := Lib.hid hr; have HRf := Lib.hid (HRn.out.on hb); have HBf := Lib.hid hb; have HAf := Lib.hid (HAn.out.bel hb); have HNf := Lib.hid (HNn.out.below hb (Nat.le_refl _)); clear hr hb)
                    refine ⟨Ke.below _ HBf.out, rest_step [] [4] (by kernel_rfl) (fun _ _ d _ _ h => by cases d <;> exact h) (by kernel_rfl) rfl (by kernel_rfl) (by decide) rfl ?_⟩
                    simp only [pickOps, nth, Act.put, List.setIfInBounds_toArray, List.set_cons_succ, List.set_cons_zero]
                    refine wpQuiet_nil ?_
                    refine all1 ?_
                    simp only [pickOps, nth, Act.put, List.setIfInBounds_toArray, List.set_cons_succ, List.set_cons_zero]
                    go_wp2_with (fail)
                    have H2 : Hid (RdI .u8 (wf.alloc (.cells #[.int .u8 (cl % 256)] 5)) (some ⟨wf.heap.size, 0, none⟩) 1 [cl % 256]) := Lib.hid (rd_lit8 wf [cl % 256] (one_byte _) (show 1 ≤ 1000 by decide))
                    have HADD : Hid (Calls Try.prog 62 #[.slice (some ⟨wf.heap.size + 1, 0, none⟩) 3 3, .pointer (some ⟨w.heap.size + 1 + 1, 0, none⟩)] ((wf.alloc (.cells #[.int .u8 (cl % 256)] 5)).alloc (.cells #[.slice (some ⟨wf.heap.size, 0, none⟩) 1 1, .slice ann (nameB xn).length cnn, .slice arf 2 crf] 46)) (fun e w' => e = .returned (.tuple #[]) ∧ Stp w ((wf.alloc (.cells #[.int .u8 (cl % 256)] 5)).alloc (.cells #[.slice (some ⟨wf.heap.size, 0, none⟩) 1 1, .slice ann (nameB xn).length cnn, .slice arf 2 crf] 46)) w.heap.size (w.heap.size + 1 + 1) (470000 + 60 * k) #[.string nm, .slice a1 l1.length c1, .slice a2 l2.length c2, .slice (some ⟨b3, o3, none⟩) l3.length c3] ((((([(l1.length : Int) % 256] ++ l1.flatMap impF) ++ [(l2.length : Int) % 256]) ++ l2.flatMap (fun x => typF x.d)) ++ wordB l3.length) ++ (l3.take k).flatMap (fun x => objF x.d)) ([cl % 256] ++ (nameB xn ++ refB2 ⟨bm, bi⟩)) w')) := Lib.hid (by
                      have := add_of3 (HRf.out.on (bel1 wf (.cells #[.int .u8 (cl % 256)] 5))) H2.out (HNf.out.below (bel1 wf (.cells #[.int .u8 (cl % 256)] 5)) (Nat.le_refl _)) (HFf.out.below (bel1 wf (.cells #[.int .u8 (cl % 256)] 5)) (Nat.le_refl _)) (show [cl % 256].length = 1 from rfl) rfl (show (refB2 _).length = 2 from rfl) (by have := HXL.out; omega) (by have := HK3.out; omega)
                      rw [show (wf.alloc (.cells #[.int .u8 (cl % 256)] 5)).heap.size = wf.heap.size + 1 by simp] at this
                      exact this)
                    refine ⟨Ke.below _ (bel1 _ _), rest_step [] [11] (by kernel_rfl) (fun _ _ d _ _ h => by cases d <;> exact h) (by kernel_rfl) rfl (by kernel_rfl) (by decide) rfl ?_⟩
                    simp only [pickOps, nth, Act.put, List.setIfInBounds_toArray, List.set_cons_succ, List.set_cons_zero]
                    refine wpQuiet_nil ?_
                    refine all1 ?_
                    simp only [pickOps, nth, Act.put, List.setIfInBounds_toArray, List.set_cons_succ, List.set_cons_zero]
                    go_wp2_with (fail)
                    refine ⟨Ke.below _ (bel1 _ _), rest_step [] [12] (by kernel_rfl) (fun _ _ d _ _ h => by cases d <;> exact h) (by kernel_rfl) rfl (by kernel_rfl) (by decide) rfl ?_⟩
                    simp only [pickOps, nth, Act.put, List.setIfInBounds_toArray, List.set_cons_succ, List.set_cons_zero]
                    refine wpQuiet_nil ?_
                    refine all1 ?_
                    simp only [pickOps, nth, Act.put, List.setIfInBounds_toArray, List.set_cons_succ, List.set_cons_zero]
                    go_wp2_with (refine HADD.out.mono ?_; rintro e' wz ⟨rfl, hst⟩; have HST := Lib.hid hst; clear hst)
                    refine ⟨HST.out.2.2 _ (fun i hi => by obtain rfl : i = wt.heap.size := Classical.not_not.1 hi; exact ⟨HGX.out, .inr ⟨#[.int .i64 cl, .string xn, .int .i64 bm, .int .i64 bi, .int .u32 vl, .slice pa pl.length pcc], 42, (HAf.out.bel (bel2 _ _ _)), by decide⟩⟩), rest_end [] (by kernel_rfl) (fun _ _ d _ _ h => by cases d <;> exact h) (by kernel_rfl) (by kernel_rfl) rfl ?_⟩
                    simp only [pickOps, nth, Act.put, List.setIfInBounds_toArray, List.set_cons_succ, List.set_cons_zero]
                    refine wpQuiet_nil ?_
                    go_wp2_with (fail)
                    go_meet
                    refine ⟨?_, HST.out.2.1 _ _ _ (HAf.out.bel (bel2 _ _ _)) (by decide) HGX.out⟩
                    exact HST.out.1.more (by simp only [List.length_append]; rw [show (refB2 ⟨bm, bi⟩).length = 2 from rfl]; show _ + (1 + _) ≤ _; have := HXL.out; omega)
              case rest =>
                obtain ⟨hr7, ha7⟩ := hcut
                have HR7 := Lib.hid hr7
                have HA7 := Lib.hid ha7
                clear hr7 ha7 HRe HAe HBc
                have f10 : True := trivial
                have f11 : True := trivial
                have f12 : True := trivial
                have f13 : True := trivial
                have f14 : True := trivial
                have y0 := (HA7.out.cell 0).trans (show _ = some (.int .i64 cl) from rfl)
                have y4 := (HA7.out.cell 4).trans (show _ = some (.int .u32 vl) from rfl)
                have y5 := (HA7.out.cell 5).trans (show _ = some (.slice pa pl.length pcc) from rfl)
                by_cases h1 : cl = 1
                · have e1 : (cl == 1) = true := by rw [h1]; rfl
                  have HTY : Hid (objF ⟨cl, xn, ⟨bm, bi⟩, vl, pl⟩ = ([cl % 256] ++ (nameB xn ++ refB2 ⟨bm, bi⟩)) ++ (wordB vl)) := Lib.hid (by unfold objF objTail; rw [if_pos (show (cl = 1 ∨ cl = 3) from .inl h1)])
                  clear h1
                  go_wp2_with (first | (have _f := f10; refine (put_walk vl _ ⟨q2, q2'⟩).mono ?_; rintro e' wp ⟨app, cpp, rfl, hr, hb⟩; have HWp := Lib.hid hr; have HRp := Lib.hid (HR7.out.on hb); have HBp := Lib.hid hb; clear hr hb; clear _f f10) | (have _f := f11; refine (add_of1 HRp.out HWp.out (wordB_len _) (show 4 ≤ 1000 by decide) (by have := HK3.out; omega)).mono ?_; rintro e' wz ⟨rfl, hst⟩; have HST := Lib.hid hst; clear hst _f f11))
                  go_roundw
                  case rel =>
                    refine ⟨k + 1, by go_num, HLT.out, ?_⟩
                    rw [take_flatF HX.out (fun x => objF x.d), ← List.append_assoc]
                    have hh := HST.out.1
                    rw [show objF (FO.d ⟨cl, xn, ⟨bm, bi⟩, vl, ⟨_, pcc, pl⟩⟩) = _ from HTY.out]
                    simp only [List.append_assoc] at hh ⊢
                    exact hh.more (by rw [wordB_len]; omega)
                  case measure => simp [intOf]; have := HLT.out; omega
                have e1 : (cl == 1) = false := by rw [beq_eq_false_iff_ne]; exact h1
                by_cases h3 : cl = 3
                · have e3 : (cl == 3) = true := by rw [h3]; rfl
                  have HTY : Hid (objF ⟨cl, xn, ⟨bm, bi⟩, vl, pl⟩ = ([cl % 256] ++ (nameB xn ++ refB2 ⟨bm, bi⟩)) ++ (wordB vl)) := Lib.hid (by unfold objF objTail; rw [if_pos (show (cl = 1 ∨ cl = 3) from .inr h3)])
                  clear h1 h3
                  go_wp2_with (first | (have _f := f10; refine (put_walk vl _ ⟨q2, q2'⟩).mono ?_; rintro e' wp ⟨app, cpp, rfl, hr, hb⟩; have HWp := Lib.hid hr; have HRp := Lib.hid (HR7.out.on hb); have HBp := Lib.hid hb; clear hr hb; clear _f f10) | (have _f := f11; refine (add_of1 HRp.out HWp.out (wordB_len _) (show 4 ≤ 1000 by decide) (by have := HK3.out; omega)).mono ?_; rintro e' wz ⟨rfl, hst⟩; have HST := Lib.hid hst; clear hst _f f11))
                  go_roundw
                  case rel =>
                    refine ⟨k + 1, by go_num, HLT.out, ?_⟩
                    rw [take_flatF HX.out (fun x => objF x.d), ← List.append_assoc]
                    have hh := HST.out.1
                    rw [show objF (FO.d ⟨cl, xn, ⟨bm, bi⟩, vl, ⟨_, pcc, pl⟩⟩) = _ from HTY.out]
                    simp only [List.append_assoc] at hh ⊢
                    exact hh.more (by rw [wordB_len]; omega)
                  case measure => simp [intOf]; have := HLT.out; omega
                have e3 : (cl == 3) = false := by rw [beq_eq_false_iff_ne]; exact h3
                by_cases h4 : cl = 4
                · have e4 : (cl == 4) = true := by rw [h4]; rfl
                  have HTY : Hid (objF ⟨cl, xn, ⟨bm, bi⟩, vl, pl⟩ = ([cl % 256] ++ (nameB xn ++ refB2 ⟨bm, bi⟩)) ++ ([vl % 256, (pl.length : Int) % 256] ++ pl.flatMap prmF)) := Lib.hid (by unfold objF objTail; rw [if_neg (show ¬ (cl = 1 ∨ cl = 3) from fun e => e.elim h1 h3), if_pos h4])
                  clear h1 h3 h4
                  go_wp2_with (first | (have _f := f12; refine (add_lit1 HR7.out [vl % 256, (pl.length : Int) % 256] (two_bytes _ _) 2 rfl (by decide) (by have := HK3.out; omega)).mono ?_; rintro e' wa ⟨rfl, hst⟩; have HR8 : Hid (RS w wa w.heap.size (w.heap.size + 1 + 1) (470000 + 60 * k + 19 + 2) #[.string nm, .slice a1 l1.length c1, .slice a2 l2.length c2, .slice (some ⟨b3, o3, none⟩) l3.length c3] ((((((([(l1.length : Int) % 256] ++ l1.flatMap impF) ++ [(l2.length : Int) % 256]) ++ l2.flatMap (fun x => typF x.d)) ++ wordB l3.length) ++ (l3.take k).flatMap (fun x => objF x.d)) ++ ([cl % 256] ++ (nameB xn ++ refB2 ⟨bm, bi⟩))) ++ [vl % 256, (pl.length : Int) % 256])) := Lib.hid hst.1; have HA8 : Hid (At wa wt.heap.size #[.int .i64 cl, .string xn, .int .i64 bm, .int .i64 bi, .int .u32 vl, .slice pa pl.length pcc] 42) := Lib.hid (hst.2.1 _ _ _ HA7.out (by decide) HGX.out); have y9 := (HA8.out.cell 5).trans (show _ = some (.slice pa pl.length pcc) from rfl); clear hst y0 y4 y5 _f f12))
                  obtain ⟨bP, oP, hatP, hcellP⟩ := HRP.out.at'
                  have HATP := Lib.hid hatP
                  have HCP := Lib.hid hcellP
                  have HOKP := Lib.hid HRP.out.all
                  dsimp only at HATP HCP HOKP
                  clear hatP hcellP HRP
                  have HXT := HX
                  have HLTT := HLT
                  have HGT := HGX
                  clear HX HLT HGX
                  go_loopw [173] (fun i wr => ∃ j : Nat, i = .int .i64 j ∧ j ≤ pl.length ∧ RS w wr w.heap.size (w.heap.size + 1 + 1) (470000 + 60 * k + 19 + 2 + 3 * j) #[.string nm, .slice a1 l1.length c1, .slice a2 l2.length c2, .slice (some ⟨b3, o3, none⟩) l3.length c3] (((((((([(l1.length : Int) % 256] ++ l1.flatMap impF) ++ [(l2.length : Int) % 256]) ++ l2.flatMap (fun x => typF x.d)) ++ wordB l3.length) ++ (l3.take k).flatMap (fun x => objF x.d)) ++ ([cl % 256] ++ (nameB xn ++ refB2 ⟨bm, bi⟩))) ++ [vl % 256, (pl.length : Int) % 256]) ++ (pl.take j).flatMap prmF)) (fun i _ => pl.length - (intOf i).toNat)
                  case atStart => exact ⟨0, rfl, Nat.zero_le _, by rw [List.take_zero, List.flatMap_nil, List.append_nil]; exact HR8.out⟩
                  case round =>
                    obtain ⟨j, rfl, hj, hr⟩ := hrel
                    have HRy := Lib.hid hr
                    clear hr y9 HR8 HA8
                    by_cases hlt : j < pl.length
                    · obtain ⟨⟨pv, ⟨pm, pi⟩⟩, hx⟩ := get_lt hlt
                      have f1 : True := trivial
                      have f2 : True := trivial
                      have f3 : True := trivial
                      have HX := Lib.hid hx
                      have HLT := Lib.hid hlt
                      obtain ⟨rfl, hb⟩ := HATP.out (by omega)
                      have HCO : Hid (∀ (q : Nat) (y : Value), ([.bool pv, .int .i64 pm, .int .i64 pi] : List Value)[q]? = some y → wr.cell? ⟨bP, oP + j * 3 + q, none⟩ = some y) := Lib.hid (fun q y hy => (HRy.out.bel.cell (p := ⟨bP, oP + j * 3 + q, none⟩) hb).trans (HCP.out j _ hx q y hy))
                      have HJ : Hid (j < 12) := Lib.hid (by have := HPL.out; omega)
                      clear hx hb
                      cases pv
                      skip
                      case true =>
                        go_wp2_with (first | (have _f := f1; refine wpList_load_mid rfl 97 (.tmp 175) rfl bP (oP + j * 3) rfl [.bool true, .int .i64 pm, .int .i64 pi] _ HCO.out Try.underlying97 rfl (by kernel_rfl) ?_; clear _f f1) | (have _f := f2; refine alloc_sep rfl 97 rfl (HSN.out _) (z := .agg #[.bool false, .int .i64 0, .int .i64 0]) (cs := #[.bool false, .int .i64 0, .int .i64 0]) (by kernel_rfl) rfl ?_; intro wc S' b' s'; have HSc := Lib.hid S'; have HBc := Lib.hid b'; clear S' b' s' _f f2) | (have _f := f3; refine store_sep (cells := #[.bool true, .int .i64 pm, .int .i64 pi]) rfl 97 (.tmp 14) (.tmp 176) rfl HSc.out 0 rfl rfl rfl (by kernel_rfl) rfl rfl ?_; intro we S' k' s'; have HAe : Hid (At we wr.heap.size #[.bool true, .int .i64 pm, .int .i64 pi] 97) := Lib.hid (S'.at 0 rfl); have hbe : Below wr.heap.size wr we := ((Ke.below (· = wr.heap.size) HBc.out).trans k').toBelow (fun i hi e => absurd e (Nat.ne_of_lt hi)); have HRe := Lib.hid (HRy.out.on hbe); have HGX : Hid (¬ wr.heap.size = (w.heap.size + 1 + 1)) := Lib.hid (Nat.ne_of_gt HRy.out.glt); have y7 := (HAe.out.cell 0).trans (show _ = some (.bool true) from rfl); clear S' k' s' hbe _f f3) | (have _f := f10; refine wpList_load_mid rfl 30 (.tmp 182) rfl wr.heap.size 1 rfl [.int .i64 pm, .int .i64 pi] _ (fun q y hy => ((HAe.out.bel (bel1 we (.cells #[.int .u8 1] 5))).cell (1 + q)).trans (by match q, hy with | 0, hy => exact hy | 1, hy => exact hy)) Try.underlying30 rfl (by kernel_rfl) ?_; clear _f f10) | (have _f := f11; refine (refBytes8_walk ⟨pm, pi⟩ _).mono ?_; rintro e' wp ⟨ar, cr, rfl, hr, hb⟩; have HFp := Lib.hid hr; have HRp := Lib.hid ((HRe.out.on (bel1 we (.cells #[.int .u8 1] 5))).on hb); have H2p : Hid (RdI .u8 wp (some ⟨we.heap.size, 0, none⟩) 1 [1]) := Lib.hid ((show RdI .u8 (we.alloc (.cells #[.int .u8 1] 5)) (some ⟨we.heap.size, 0, none⟩) 1 [1] from rd_lit8 we [1] (by intro x hx; obtain rfl := List.mem_singleton.1 hx; exact ⟨by decide, by decide⟩) (show 1 ≤ 1000 by decide)).below hb (Nat.le_refl _)); clear hr hb _f f11) | (have _f := f13; refine (add_of2 HRp.out H2p.out HFp.out (show [(1 : Int)].length = 1 from rfl) (show (refB2 _).length = 2 from rfl) (show 1 + 2 ≤ 1000 by decide) (by have := HK3.out; have := HJ.out; omega)).mono ?_; rintro e' wz ⟨rfl, hst⟩; have HST := Lib.hid hst; clear hst _f f13))
                        go_roundw
                        case rel =>
                          refine ⟨j + 1, by go_num, HLT.out, ?_⟩
                          rw [take_flatF HX.out prmF, ← List.append_assoc]
                          exact HST.out.1.more (by show _ + 3 ≤ _; omega)
                        case measure => simp [intOf]; have := HLT.out; omega
                      case false =>
                        go_wp2_with (first | (have _f := f1; refine wpList_load_mid rfl 97 (.tmp 175) rfl bP (oP + j * 3) rfl [.bool false, .int .i64 pm, .int .i64 pi] _ HCO.out Try.underlying97 rfl (by kernel_rfl) ?_; clear _f f1) | (have _f := f2; refine alloc_sep rfl 97 rfl (HSN.out _) (z := .agg #[.bool false, .int .i64 0, .int .i64 0]) (cs := #[.bool false, .int .i64 0, .int .i64 0]) (by kernel_rfl) rfl ?_; intro wc S' b' s'; have HSc := Lib.hid S'; have HBc := Lib.hid b'; clear S' b' s' _f f2) | (have _f := f3; refine store_sep (cells := #[.bool false, .int .i64 pm, .int .i64 pi]) rfl 97 (.tmp 14) (.tmp 176) rfl HSc.out 0 rfl rfl rfl (by kernel_rfl) rfl rfl ?_; intro we S' k' s'; have HAe : Hid (At we wr.heap.size #[.bool false, .int .i64 pm, .int .i64 pi] 97) := Lib.hid (S'.at 0 rfl); have hbe : Below wr.heap.size wr we := ((Ke.below (· = wr.heap.size) HBc.out).trans k').toBelow (fun i hi e => absurd e (Nat.ne_of_lt hi)); have HRe := Lib.hid (HRy.out.on hbe); have HGX : Hid (¬ wr.heap.size = (w.heap.size + 1 + 1)) := Lib.hid (Nat.ne_of_gt HRy.out.glt); have y7 := (HAe.out.cell 0).trans (show _ = some (.bool false) from rfl); clear S' k' s' hbe _f f3) | (have _f := f10; refine wpList_load_mid rfl 30 (.tmp 182) rfl wr.heap.size 1 rfl [.int .i64 pm, .int .i64 pi] _ (fun q y hy => ((HAe.out.bel (bel1 we (.cells #[.int .u8 0] 5))).cell (1 + q)).trans (by match q, hy with | 0, hy => exact hy | 1, hy => exact hy)) Try.underlying30 rfl (by kernel_rfl) ?_; clear _f f10) | (have _f := f11; refine (refBytes8_walk ⟨pm, pi⟩ _).mono ?_; rintro e' wp ⟨ar, cr, rfl, hr, hb⟩; have HFp := Lib.hid hr; have HRp := Lib.hid ((HRe.out.on (bel1 we (.cells #[.int .u8 0] 5))).on hb); have H2p : Hid (RdI .u8 wp (some ⟨we.heap.size, 0, none⟩) 1 [0]) := Lib.hid ((show RdI .u8 (we.alloc (.cells #[.int .u8 0] 5)) (some ⟨we.heap.size, 0, none⟩) 1 [0] from rd_lit8 we [0] (by intro x hx; obtain rfl := List.mem_singleton.1 hx; exact ⟨by decide, by decide⟩) (show 1 ≤ 1000 by decide)).below hb (Nat.le_refl _)); clear hr hb _f f11) | (have _f := f13; refine (add_of2 HRp.out H2p.out HFp.out (show [(0 : Int)].length = 1 from rfl) (show (refB2 _).length = 2 from rfl) (show 1 + 2 ≤ 1000 by decide) (by have := HK3.out; have := HJ.out; omega)).mono ?_; rintro e' wz ⟨rfl, hst⟩; have HST := Lib.hid hst; clear hst _f f13))
                        go_roundw
                        case rel =>
                          refine ⟨j + 1, by go_num, HLT.out, ?_⟩
                          rw [take_flatF HX.out prmF, ← List.append_assoc]
                          exact HST.out.1.more (by show _ + 3 ≤ _; omega)
                        case measure => simp [intOf]; have := HLT.out; omega
                    · obtain rfl : j = pl.length := by omega
                      go_wp2_with (fail)
                      have HX := HXT
                      have HLT := HLTT
                      go_roundw
                      case rel =>
                        refine ⟨k + 1, by go_num, HLT.out, ?_⟩
                        rw [take_flatF HX.out (fun x => objF x.d), ← List.append_assoc]
                        have hh := HRy.out
                        rw [List.take_length] at hh
                        rw [show objF (FO.d ⟨cl, xn, ⟨bm, bi⟩, vl, ⟨_, pcc, pl⟩⟩) = _ from HTY.out]
                        simp only [List.append_assoc] at hh ⊢
                        exact hh.more (by have := HPL.out; omega)
                      case measure => simp [intOf]; have := HLT.out; omega
                have e4 : (cl == 4) = false := by rw [beq_eq_false_iff_ne]; exact h4
                have HTY : Hid (objF ⟨cl, xn, ⟨bm, bi⟩, vl, pl⟩ = ([cl % 256] ++ (nameB xn ++ refB2 ⟨bm, bi⟩)) ++ ([])) := Lib.hid (by unfold objF objTail; rw [if_neg (show ¬ (cl = 1 ∨ cl = 3) from fun e => e.elim h1 h3), if_neg h4])
                clear h1 h3 h4
                go_wp2_with (fail)
                rw [List.append_nil] at HTY
                go_roundw
                case rel =>
                  refine ⟨k + 1, by go_num, HLT.out, ?_⟩
                  rw [take_flatF HX.out (fun x => objF x.d), ← List.append_assoc]
                  have hh := HR7.out
                  rw [show objF (FO.d ⟨cl, xn, ⟨bm, bi⟩, vl, ⟨_, pcc, pl⟩⟩) = _ from HTY.out]
                  simp only [List.append_assoc] at hh ⊢
                  exact hh.more (by omega)
                case measure => simp [intOf]; have := HLT.out; omega
            · obtain rfl : k = l3.length := by omega
              have hrz := HR.out
              obtain ⟨LL, hLL⟩ : ∃ LL, LL = (((([(l1.length : Int) % 256] ++ l1.flatMap impF) ++ [(l2.length : Int) % 256]) ++ l2.flatMap (fun x => typF x.d)) ++ wordB l3.length) ++ (l3.take l3.length).flatMap (fun x => objF x.d) := ⟨_, rfl⟩
              rw [← hLL] at hrz
              have e : R = LL := by rw [hLL, HRE.out, List.take_length]; simp only [List.append_assoc]
              subst e
              clear hLL HR
              obtain ⟨v, hA, hO⟩ := hrz.acc.acc.box
              obtain ⟨ua, uc, rfl, hur⟩ := RdI.own hO (fun x hx => bd_u8' (hrz.acc.acc.byte x hx))
              have HUR := Lib.hid hur
              have hv := (hA.cell 0).trans (show _ = some _ from rfl)
              have HBE := Lib.hid hrz.bel
              clear hA hO hur hk hrz HRE
              go_wp2_with (fail)
              go_ret
              exact ⟨ua, uc, rfl, HUR.out, HBE.out⟩
end Go.Proofs.Ytfnibpkojhgflaa
