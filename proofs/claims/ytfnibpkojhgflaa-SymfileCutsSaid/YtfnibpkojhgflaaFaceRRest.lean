/- Contract: the reference's Rest of a face within bounds. Printed by bin/gen_symrrest.py. -/
import Derived.Test.YtfnibpkojhgflaaFaceRAcc
import Derived.Test.YtfnibpkojhgflaaFaceRObj
import Derived.Deep.DeepCutAuto
namespace Go.Proofs.Ytfnibpkojhgflaa
set_option linter.unusedVariables false
set_option linter.unusedSimpArgs false
open Go.RowKit

set_option maxRecDepth 100000 in
set_option maxHeartbeats 16000000 in
theorem rrest_walk (f : Fc) (w : World) (h : f.Rd w) (hsm : SmallF f) :
    Calls Try.prog 20 #[f.val] w fun e w' => ∃ a c, e = .returned (.slice a (restF f.d).length c) ∧ RdI .u8 w' a c (restF f.d) ∧ Below w.heap.size w w' := by
  have HSM := Lib.hid hsm
  have i1 := h.imps.len
  have i2 := h.types.len
  have i3 := h.objs.len
  obtain ⟨b1, o1, hat1, hcell1⟩ := h.imps.at'
  obtain ⟨b2, o2, hat2, hcell2⟩ := h.types.at'
  obtain ⟨b3, o3, hat3, hcell3⟩ := h.objs.at'
  have HAT1 := Lib.hid hat1
  have HAT2 := Lib.hid hat2
  have HAT3 := Lib.hid hat3
  have HC1 := Lib.hid hcell1
  have HC2 := Lib.hid hcell2
  have HC3 := Lib.hid hcell3
  have HOK1 := Lib.hid h.imps.all
  have HOK2 := Lib.hid h.types.all
  have HOK3 := Lib.hid h.objs.all
  have HXA := Lib.hid (XC_all f)
  clear h hsm hat1 hat2 hat3 hcell1 hcell2 hcell3
  obtain ⟨R, hR⟩ : ∃ R, R = restF f.d := ⟨_, rfl⟩
  rw [← hR] at HXA ⊢
  clear hR
  obtain ⟨nm, ⟨a1, c1, l1⟩, ⟨a2, c2, l2⟩, ⟨a3, c3, l3⟩⟩ := f
  dsimp only at i1 i2 i3 HAT1 HAT2 HAT3 HC1 HC2 HC3 HOK1 HOK2 HOK3 HXA
  have HN1 : Hid (l1.length ≤ 12) := Lib.hid HSM.out.nimps
  have HN2 : Hid (l2.length ≤ 200) := Lib.hid HSM.out.ntypes
  have HN3 : Hid (l3.length ≤ 900) := Lib.hid HSM.out.nobjs
  show Calls _ _ #[.agg #[.string nm, .slice a1 l1.length c1, .slice a2 l2.length c2, .slice a3 l3.length c3]] w _
  obtain ⟨g, hg⟩ : ∃ g, g = w.heap.size := ⟨_, rfl⟩
  have HG := Lib.hid hg
  clear hg
  have HSN := Lib.hid (fun w' : World => Sep.nil w')
  have HY0 : Hid (Ac w ((w.alloc (.cells #[.string nm, .slice a1 l1.length c1, .slice a2 l2.length c2, .slice a3 l3.length c3] 26)).alloc (.cells #[.int .u8 ((l1.length : Int) % 256)] 5)) [(g, #[.string nm, .slice a1 l1.length c1, .slice a2 l2.length c2, .slice a3 l3.length c3], 26)] 1 (.slice (some ⟨w.heap.size + 1, 0, none⟩) 1 1) (XA l1 0)) := Lib.hid (by rw [HG.out, XA_zero]; exact ac_start w #[.string nm, .slice a1 l1.length c1, .slice a2 l2.length c2, .slice a3 l3.length c3] 26 (by decide) [(l1.length : Int) % 256] (by simp) (byte1 _))
  go_enter Try.func20, Try.ntmps20
  go_wp2_with (fail)
  rw [← HG.out]
  go_loopw [3, 4] (fun b i wr => ∃ k : Nat, i = .int .i64 k ∧ k ≤ l1.length ∧ Ac w wr [(g, #[.string nm, .slice a1 l1.length c1, .slice a2 l2.length c2, .slice a3 l3.length c3], 26)] (1 + 20 * k) b (XA l1 k)) (fun _ i _ => l1.length - (intOf i).toNat)
  case atStart => exact ⟨0, rfl, Nat.zero_le _, by rw [HG.out]; have := HY0.out; rwa [HG.out] at this⟩
  case round =>
    obtain ⟨k, rfl, hk, hy⟩ := hrel
    have HYr := Lib.hid hy
    have hc := HYr.out.is (v := .slice a1 l1.length c1) 0 rfl 1 rfl
    clear hy
    by_cases hlt : k < l1.length
    · obtain ⟨⟨xn, xk⟩, hx⟩ := get_lt hlt
      obtain ⟨rfl, hb⟩ := HAT1.out (by omega)
      have HIC := Lib.hid (imp_cells HC1.out hx)
      have HX := Lib.hid hx
      have HLT := Lib.hid hlt
      have HBB := Lib.hid hb
      have hnl : xn.size ≤ 15 := HSM.out.imps _ (List.mem_of_getElem? hx)
      have HXN : Hid (xn.size ≤ 1000000) := Lib.hid (by omega)
      have HXL : Hid ((nameB xn).length ≤ 16) := Lib.hid (by rw [nameB_len]; omega)
      have HXK : Hid (0 ≤ xk ∧ xk < 4294967296) := Lib.hid (HOK1.out _ (List.mem_of_getElem? hx)).2
      have HK12 : Hid (k < 12) := Lib.hid (by have := HN1.out; omega)
      clear hx hb hnl
      go_wp2
      clear hc
      refine wp_region_mixK (AG w [(g, #[.string nm, .slice (some ⟨b1, o1, none⟩) l1.length c1, .slice a2 l2.length c2, .slice a3 l3.length c3], 26)]) [([0, 1, 2, 3, 4, 5, 6, 9, 10, 11, 12, 13, 14], 7), ([], 8), ([], 15), ([], 16)] [17] (by kernel_rfl) (by kernel_rfl) (fun _ _ d _ _ h => by cases d <;> exact h) ?_
      intro wd hbd
      have HYd := Lib.hid (HYr.out.on hbd)
      clear hbd
      have lc := fun x => HYd.out.cell (v := .slice (some ⟨b1, o1, none⟩) l1.length c1) 0 rfl 1 rfl x
      have lr0 := fun x => HYd.out.old (p := ⟨b1, o1 + k * 2, none⟩) HBB.out HIC.out.1 x
      have lr1 := fun x => HYd.out.old (p := ⟨b1, o1 + k * 2 + 1, none⟩) HBB.out HIC.out.2 x
      refine mixK_step ?_
      simp only [pickOps, nth, Act.put, List.setIfInBounds_toArray, List.set_cons_succ, List.set_cons_zero]
      (repeat (go_big_quiet_step (fail)))
      refine wpQuiet_nil ?_
      clear lc lr0 lr1
      go_wp2_with (refine (refName_walk xn _ HXN.out).mono ?_; rintro e w1 ⟨aw1, cw1, rfl, hr, hb⟩; have HR1 := Lib.hid hr; have HY1 := Lib.hid (HYd.out.on hb); have HK1 := Lib.hid (Ke.below (AG w [(g, #[.string nm, .slice (some ⟨b1, o1, none⟩) l1.length c1, .slice a2 l2.length c2, .slice a3 l3.length c3], 26)]) hb); clear hr hb)
      refine ⟨HK1.out, mixK_step ?_⟩
      simp only [pickOps, nth, Act.put, List.setIfInBounds_toArray, List.set_cons_succ, List.set_cons_zero]
      (repeat (go_big_quiet_step (fail)))
      refine wpQuiet_nil ?_
      refine append_at rfl (.tmp 25) (.tmp 32) et_u8 rfl w.heap.size rfl HY1.out.own rfl HR1.out.row (by rw [List.length_map, Nat.mul_one]; try rfl) (ints_one .u8 _) (HY1.out.room (by have := HXL.out; have := HK12.out; omega)) (HY1.out.room' (by have := HXL.out; have := HK12.out; omega)) HY1.out.bel.size ?_
      intro v2 w2 own2 gr2 _
      have HY2 := Lib.hid ((HY1.out.grow own2 gr2 rfl (nameB_byte xn)).more (show 1 + 20 * k + (nameB xn).length ≤ 1 + 20 * k + 16 by have := HXL.out; omega))
      have HK2 := Lib.hid (HY1.out.ke gr2)
      clear own2 gr2
      refine ⟨HK2.out, mixK_step ?_⟩
      simp only [pickOps, nth, Act.put, List.setIfInBounds_toArray, List.set_cons_succ, List.set_cons_zero]
      (repeat (go_big_quiet_step (fail)))
      refine wpQuiet_nil ?_
      go_wp2_with (refine (refWord_walk xk _ HXK.out).mono ?_; rintro e w3 ⟨aw3, cw3, rfl, hr, hb⟩; have HR3 := Lib.hid hr; have HY3 := Lib.hid (HY2.out.on hb); have HK3 := Lib.hid (Ke.below (AG w [(g, #[.string nm, .slice (some ⟨b1, o1, none⟩) l1.length c1, .slice a2 l2.length c2, .slice a3 l3.length c3], 26)]) hb); clear hr hb)
      refine ⟨HK3.out, mixK_step ?_⟩
      simp only [pickOps, nth, Act.put, List.setIfInBounds_toArray, List.set_cons_succ, List.set_cons_zero]
      (repeat (go_big_quiet_step (fail)))
      refine wpQuiet_nil ?_
      refine append_at rfl (.tmp 33) (.tmp 40) et_u8 rfl w.heap.size rfl HY3.out.own rfl HR3.out.row (by rw [List.length_map, Nat.mul_one]; try rfl) (ints_one .u8 _) (HY3.out.room (by have := HXL.out; have := HK12.out; omega)) (HY3.out.room' (by have := HXL.out; have := HK12.out; omega)) HY3.out.bel.size ?_
      intro v4 w4 own4 gr4 _
      have HY4 := Lib.hid ((HY3.out.grow own4 gr4 rfl (wordB_byte _)))
      have HK4 := Lib.hid (HY3.out.ke gr4)
      clear own4 gr4
      refine ⟨HK4.out, mixK_end ?_⟩
      simp only [pickOps, nth, Act.put, List.setIfInBounds_toArray, List.set_cons_succ, List.set_cons_zero]
      (repeat (go_big_quiet_step (fail)))
      refine wpQuiet_nil ?_
      go_wp2
      go_roundw
      case rel => exact ⟨k + 1, by go_num, HLT.out, (HY4.out.more (by omega)).re (XA_next HX.out)⟩
      case measure => simp [intOf]; have := HLT.out; omega
    · have hk2 : k = l1.length := by omega
      subst hk2
      have hc2 := HYr.out.is (v := .slice a2 l2.length c2) 0 rfl 2 rfl
      have HB5 := Lib.hid (bel1 wr (.cells (([(l2.length : Int) % 256] : List Int).map (Value.int .u8)).toArray 5))
      have HL5 := Lib.hid (At.new wr (([(l2.length : Int) % 256] : List Int).map (Value.int .u8)).toArray 5)
      have HY5 := Lib.hid (HYr.out.on HB5.out)
      have q1 : True := trivial
      go_wp2_with (first | (have _f := q1; at_builtin; refine append_at rfl (.tmp 42) (.tmp 47) et_u8 rfl w.heap.size rfl HY5.out.own rfl (rd_at8r HL5.out (byte1 _) (by simp)).row (by rw [List.length_map, Nat.mul_one]; try rfl) (ints_one .u8 _) (HY5.out.room (by have := HN1.out; omega)) (HY5.out.room' (by have := HN1.out; omega)) HY5.out.bel.size ?_; intro v6 w6 own6 gr6 _; have HY6 := Lib.hid ((HY5.out.grow own6 gr6 rfl (byte1 _))); clear own6 gr6; clear _f q1))
      have HY2 : Hid (Ac w w6 [(g, #[.string nm, .slice a1 l1.length c1, .slice a2 l2.length c2, .slice a3 l3.length c3], 26)] 242 v6 (XB l1 l2 0)) := Lib.hid ((HY6.out.more (by have := HN1.out; omega)).re (XB_zero l1 l2).symm)
      clear HY6 HYr hlt hk hc hc2 HB5 HL5 HY5
      go_loopw [3, 5] (fun b i wr => ∃ k : Nat, i = .int .i64 k ∧ k ≤ l2.length ∧ Ac w wr [(g, #[.string nm, .slice a1 l1.length c1, .slice a2 l2.length c2, .slice a3 l3.length c3], 26)] (242 + 2300 * k) b (XB l1 l2 k)) (fun _ i _ => l2.length - (intOf i).toNat)
      case atStart => exact ⟨0, rfl, Nat.zero_le _, HY2.out⟩
      case round =>
        obtain ⟨wt, rfl⟩ : ∃ wt : World, wt = wr := ⟨_, rfl⟩
        obtain ⟨k, rfl, hk, hy⟩ := hrel
        have HYr := Lib.hid hy
        have hc := HYr.out.is (v := .slice a2 l2.length c2) 0 rfl 2 rfl
        clear hy HY2
        by_cases hlt : k < l2.length
        · obtain ⟨⟨fo, le, si, ⟨bm, bi⟩, ⟨fa, fcc, fl⟩⟩, hx⟩ := get_lt hlt
          obtain ⟨rfl, hb⟩ := HAT2.out (by omega)
          have HX := Lib.hid hx
          have HLT := Lib.hid hlt
          have HCO : Hid (∀ (q : Nat) (y : Value), ([.int .i64 fo, .int .i64 le, .int .i64 si, .int .i64 bm, .int .i64 bi, .slice fa fl.length fcc] : List Value)[q]? = some y → wt.cell? ⟨b2, o2 + k * 6 + q, none⟩ = some y) := Lib.hid (fun q y hy => (HYr.out.bel.cell (p := ⟨b2, o2 + k * 6 + q, none⟩) hb).trans (HC2.out k _ hx q y hy))
          obtain ⟨⟨u1, u1'⟩, ⟨u2, u2'⟩, ⟨u3, u3'⟩, ⟨⟨u4, u4'⟩, u5, u5'⟩, hrf⟩ := HOK2.out _ (List.mem_of_getElem? hx)
          dsimp only at u1 u1' u2 u2' u3 u3' u4 u4' u5 u5' hrf
          have HRF := Lib.hid hrf
          have hfl := hrf.len
          dsimp only at hfl
          have HFL : Hid (fl.length ≤ 100) := Lib.hid (HSM.out.fields _ (List.mem_of_getElem? hx))
          have HFN : Hid (∀ y ∈ fl, y.name.size ≤ 15) := Lib.hid (HSM.out.names _ (List.mem_of_getElem? hx))
          have HK2 : Hid (k < 200) := Lib.hid (by have := HN2.out; omega)
          clear hx hb hrf
          obtain ⟨g2, hg2⟩ : ∃ g2, g2 = wt.heap.size := ⟨_, rfl⟩
          have HG2 := Lib.hid hg2
          clear hg2
          by_cases hf2 : fo = 2
          · have e1 : (fo == 1) = false := by rw [hf2]; rfl
            have e2 : (fo != 2) = false := by rw [hf2]; rfl
            have HF2 := Lib.hid hf2
            clear hf2
            have q2 : True := trivial
            have q3 : True := trivial
            have q4 : True := trivial
            have q5 : True := trivial
            go_wp2_with (first | (have _f := q2; refine wpList_load_mid rfl 34 (.tmp 59) rfl b2 (o2 + k * 6) rfl [.int .i64 fo, .int .i64 le, .int .i64 si, .int .i64 bm, .int .i64 bi, .slice fa fl.length fcc] _ HCO.out Try.underlying34 rfl (by kernel_rfl) ?_; clear _f q2) | (have _f := q3; refine alloc_sep rfl 34 rfl (HSN.out _) (z := .agg #[.int .i64 0, .int .i64 0, .int .i64 0, .int .i64 0, .int .i64 0, .slice none 0 0]) (cs := #[.int .i64 0, .int .i64 0, .int .i64 0, .int .i64 0, .int .i64 0, .slice none 0 0]) (by kernel_rfl) rfl ?_; intro wc S' b' s'; have HSc := Lib.hid S'; have HBc := Lib.hid b'; clear S' b' s'; clear _f q3) | (have _f := q4; refine store_sep (cells := #[.int .i64 fo, .int .i64 le, .int .i64 si, .int .i64 bm, .int .i64 bi, .slice fa fl.length fcc]) rfl 34 (.tmp 6) (.tmp 60) rfl HSc.out 0 rfl rfl rfl (by kernel_rfl) rfl rfl ?_; intro we S' k' s'; have HYe := Lib.hid ((HYr.out.on (((Ke.below (· = wt.heap.size) HBc.out).trans k').toBelow (fun i hi e => absurd e (Nat.ne_of_lt hi)))).push (S'.at 0 rfl) (by decide)); clear S' k' s'; rw [← HG2.out] at HYe ⊢; have y0 := HYe.out.is (v := .int .i64 fo) 0 rfl 0 rfl; clear hc; have HB7 := Lib.hid (bel1 we (.cells (([fo % 256] : List Int).map (Value.int .u8)).toArray 5)); have HL7 := Lib.hid (At.new we (([fo % 256] : List Int).map (Value.int .u8)).toArray 5); have HY7 := Lib.hid (HYe.out.on HB7.out); clear _f q4) | (have _f := q5; at_builtin; refine append_at rfl (.tmp 61) (.tmp 65) et_u8 rfl w.heap.size rfl HY7.out.own rfl (rd_at8r HL7.out (byte1 _) (by simp)).row (by rw [List.length_map, Nat.mul_one]; try rfl) (ints_one .u8 _) (HY7.out.room (by have := HK2.out; omega)) (HY7.out.room' (by have := HK2.out; omega)) HY7.out.bel.size ?_; intro v8 w8 own8 gr8 _; have HY8 := Lib.hid ((HY7.out.grow own8 gr8 rfl (byte1 _))); clear own8 gr8; have y0 := HY8.out.is (v := .int .i64 fo) 0 rfl 0 rfl; clear _f q5))
            go_cut [3] (fun b wr => Ac w wr [(g2, #[.int .i64 fo, .int .i64 le, .int .i64 si, .int .i64 bm, .int .i64 bi, .slice fa fl.length fcc], 34), (g, #[.string nm, .slice a1 l1.length c1, .slice (some ⟨b2, o2, none⟩) l2.length c2, .slice a3 l3.length c3], 26)] (242 + 2300 * k + 6) b (XB l1 l2 k ++ [fo % 256] ++ wordB (si % 4294967296) ++ [(fl.length : Int) % 256]))
            case first =>
              refine wp_region_rest (AG w [(g2, #[.int .i64 fo, .int .i64 le, .int .i64 si, .int .i64 bm, .int .i64 bi, .slice fa fl.length fcc], 34), (g, #[.string nm, .slice a1 l1.length c1, .slice (some ⟨b2, o2, none⟩) l2.length c2, .slice a3 l3.length c3], 26)]) 13 (by kernel_rfl) rfl ?_
              intro wd hbd
              have HYd := Lib.hid (HY8.out.on hbd)
              clear hbd
              have lc2 := fun x => HYd.out.cell (v := .int .i64 si) 0 rfl 2 rfl x
              have lc5 := fun x => HYd.out.cell (v := .slice fa fl.length fcc) 0 rfl 5 rfl x
              refine rest_step [0, 1, 2, 3, 6, 7, 8, 9] [4, 10] (by kernel_rfl) (fun _ _ d _ _ h => by cases d <;> exact h) (by kernel_rfl) rfl (by kernel_rfl) (by decide) rfl ?_
              simp only [pickOps, nth, Act.put, List.setIfInBounds_toArray, List.set_cons_succ, List.set_cons_zero]
              (repeat (go_big_quiet_step (fail)))
              refine wpQuiet_nil ?_
              clear lc2 lc5
              refine all2 ?_ ?_
              · skip
                simp only [pickOps, nth, Act.put, List.setIfInBounds_toArray, List.set_cons_succ, List.set_cons_zero]
                go_wp2_with (refine (refWord_walk (si % 4294967296) _ ⟨by omega, by omega⟩).mono ?_; rintro e w9 ⟨aw9, cw9, rfl, hr, hb⟩; have HR9 := Lib.hid hr; have HY9 := Lib.hid (HYd.out.on hb); have HK9 := Lib.hid (Ke.below (AG w [(g2, #[.int .i64 fo, .int .i64 le, .int .i64 si, .int .i64 bm, .int .i64 bi, .slice fa fl.length fcc], 34), (g, #[.string nm, .slice a1 l1.length c1, .slice (some ⟨b2, o2, none⟩) l2.length c2, .slice a3 l3.length c3], 26)]) hb); clear hr hb)
                refine ⟨HK9.out, rest_step [] [5, 10] (by kernel_rfl) (fun _ _ d _ _ h => by cases d <;> exact h) (by kernel_rfl) rfl (by kernel_rfl) (by decide) rfl ?_⟩
                simp only [pickOps, nth, Act.put, List.setIfInBounds_toArray, List.set_cons_succ, List.set_cons_zero]
                (repeat (go_big_quiet_step (fail)))
                refine wpQuiet_nil ?_
                refine all2 ?_ ?_
                · skip
                  simp only [pickOps, nth, Act.put, List.setIfInBounds_toArray, List.set_cons_succ, List.set_cons_zero]
                  refine append_at rfl (.tmp 89) (.tmp 93) et_u8 rfl w.heap.size rfl HY9.out.own rfl HR9.out.row (by rw [List.length_map, Nat.mul_one]; try rfl) (ints_one .u8 _) (HY9.out.room (by have := HK2.out; omega)) (HY9.out.room' (by have := HK2.out; omega)) HY9.out.bel.size ?_
                  intro v10 w10 own10 gr10 _
                  have HY10 := Lib.hid ((HY9.out.grow own10 gr10 rfl (wordB_byte _)))
                  have HK10 := Lib.hid (HY9.out.ke gr10)
                  clear own10 gr10
                  refine ⟨HK10.out, rest_step [] [10] (by kernel_rfl) (fun _ _ d _ _ h => by cases d <;> exact h) (by kernel_rfl) rfl (by kernel_rfl) (by decide) rfl ?_⟩
                  simp only [pickOps, nth, Act.put, List.setIfInBounds_toArray, List.set_cons_succ, List.set_cons_zero]
                  (repeat (go_big_quiet_step (fail)))
                  refine wpQuiet_nil ?_
                  refine all1 ?_
                  simp only [pickOps, nth, Act.put, List.setIfInBounds_toArray, List.set_cons_succ, List.set_cons_zero]
                  go_wp2_with (fail)
                  have HB11 := Lib.hid (bel1 w10 (.cells (([(fl.length : Int) % 256] : List Int).map (Value.int .u8)).toArray 5))
                  have HL11 := Lib.hid (At.new w10 (([(fl.length : Int) % 256] : List Int).map (Value.int .u8)).toArray 5)
                  have HN11 := Lib.hid HY10.out.new
                  have HY11 := Lib.hid (HY10.out.on HB11.out)
                  obtain ⟨w11, hw11⟩ : ∃ W, W = w10.alloc (.cells (([(fl.length : Int) % 256] : List Int).map (Value.int .u8)).toArray 5) := ⟨_, rfl⟩
                  rw [← hw11] at HY11
                  rw [← hw11] at HL11
                  rw [← hw11] at HB11
                  (have hw' := hw11; simp only [List.map_cons, List.map_nil] at hw'; rw [← hw']; clear hw')
                  clear hw11
                  refine ⟨(Ke.below (AG w [(g2, #[.int .i64 fo, .int .i64 le, .int .i64 si, .int .i64 bm, .int .i64 bi, .slice fa fl.length fcc], 34), (g, #[.string nm, .slice a1 l1.length c1, .slice (some ⟨b2, o2, none⟩) l2.length c2, .slice a3 l3.length c3], 26)]) HB11.out), rest_step [] [11] (by kernel_rfl) (fun _ _ d _ _ h => by cases d <;> exact h) (by kernel_rfl) rfl (by kernel_rfl) (by decide) rfl ?_⟩
                  simp only [pickOps, nth, Act.put, List.setIfInBounds_toArray, List.set_cons_succ, List.set_cons_zero]
                  (repeat (go_big_quiet_step (fail)))
                  refine wpQuiet_nil ?_
                  refine all1 ?_
                  simp only [pickOps, nth, Act.put, List.setIfInBounds_toArray, List.set_cons_succ, List.set_cons_zero]
                  refine append_at rfl (.tmp 94) (.tmp 99) et_u8 rfl w.heap.size rfl HY11.out.own rfl (rd_at8r HL11.out (byte1 _) (by simp)).row (by rw [List.length_map, Nat.mul_one]; try rfl) (ints_one .u8 _) (HY11.out.room (by have := HK2.out; omega)) (HY11.out.room' (by have := HK2.out; omega)) HY11.out.bel.size ?_
                  intro v12 w12 own12 gr12 _
                  have HY12 := Lib.hid ((HY11.out.grow own12 gr12 rfl (byte1 _)))
                  have HK12 := Lib.hid (HY11.out.ke gr12)
                  clear own12 gr12
                  refine ⟨HK12.out, rest_end [12] (by kernel_rfl) (fun _ _ d _ _ h => by cases d <;> exact h) (by kernel_rfl) (by kernel_rfl) rfl ?_⟩
                  simp only [pickOps, nth, Act.put, List.setIfInBounds_toArray, List.set_cons_succ, List.set_cons_zero]
                  (repeat (go_big_quiet_step (fail)))
                  refine wpQuiet_nil ?_
                  go_wp2_with (fail)
                  go_meet
                  exact HY12.out.more (by omega)
                · skip
                  simp only [pickOps, nth, Act.put, List.setIfInBounds_toArray, List.set_cons_succ, List.set_cons_zero]
                  go_wp2_with (fail)
                  have HB13 := Lib.hid (bel1 w9 (.cells (([(fl.length : Int) % 256] : List Int).map (Value.int .u8)).toArray 5))
                  have HL13 := Lib.hid (At.new w9 (([(fl.length : Int) % 256] : List Int).map (Value.int .u8)).toArray 5)
                  have HN13 := Lib.hid HY9.out.new
                  have HY13 := Lib.hid (HY9.out.on HB13.out)
                  have HR13 := Lib.hid (HR9.out.below HB13.out (Nat.le_refl _))
                  obtain ⟨w13, hw13⟩ : ∃ W, W = w9.alloc (.cells (([(fl.length : Int) % 256] : List Int).map (Value.int .u8)).toArray 5) := ⟨_, rfl⟩
                  rw [← hw13] at HY13
                  rw [← hw13] at HL13
                  rw [← hw13] at HB13
                  rw [← hw13] at HR13
                  (have hw' := hw13; simp only [List.map_cons, List.map_nil] at hw'; rw [← hw']; clear hw')
                  clear hw13
                  refine ⟨(Ke.below (AG w [(g2, #[.int .i64 fo, .int .i64 le, .int .i64 si, .int .i64 bm, .int .i64 bi, .slice fa fl.length fcc], 34), (g, #[.string nm, .slice a1 l1.length c1, .slice (some ⟨b2, o2, none⟩) l2.length c2, .slice a3 l3.length c3], 26)]) HB13.out), rest_step [] [5] (by kernel_rfl) (fun _ _ d _ _ h => by cases d <;> exact h) (by kernel_rfl) rfl (by kernel_rfl) (by decide) rfl ?_⟩
                  simp only [pickOps, nth, Act.put, List.setIfInBounds_toArray, List.set_cons_succ, List.set_cons_zero]
                  (repeat (go_big_quiet_step (fail)))
                  refine wpQuiet_nil ?_
                  refine all1 ?_
                  simp only [pickOps, nth, Act.put, List.setIfInBounds_toArray, List.set_cons_succ, List.set_cons_zero]
                  refine append_at rfl (.tmp 89) (.tmp 93) et_u8 rfl w.heap.size rfl HY13.out.own rfl HR13.out.row (by rw [List.length_map, Nat.mul_one]; try rfl) (ints_one .u8 _) (HY13.out.room (by have := HK2.out; omega)) (HY13.out.room' (by have := HK2.out; omega)) HY13.out.bel.size ?_
                  intro v14 w14 own14 gr14 _
                  have HY14 := Lib.hid ((HY13.out.grow own14 gr14 rfl (wordB_byte _)))
                  have HK14 := Lib.hid (HY13.out.ke gr14)
                  have HL14 := Lib.hid (HL13.out.ke (Ke.ofGrown gr14) HN13.out)
                  clear own14 gr14
                  refine ⟨HK14.out, rest_step [] [11] (by kernel_rfl) (fun _ _ d _ _ h => by cases d <;> exact h) (by kernel_rfl) rfl (by kernel_rfl) (by decide) rfl ?_⟩
                  simp only [pickOps, nth, Act.put, List.setIfInBounds_toArray, List.set_cons_succ, List.set_cons_zero]
                  (repeat (go_big_quiet_step (fail)))
                  refine wpQuiet_nil ?_
                  refine all1 ?_
                  simp only [pickOps, nth, Act.put, List.setIfInBounds_toArray, List.set_cons_succ, List.set_cons_zero]
                  refine append_at rfl (.tmp 94) (.tmp 99) et_u8 rfl w.heap.size rfl HY14.out.own rfl (rd_at8r HL14.out (byte1 _) (by simp)).row (by rw [List.length_map, Nat.mul_one]; try rfl) (ints_one .u8 _) (HY14.out.room (by have := HK2.out; omega)) (HY14.out.room' (by have := HK2.out; omega)) HY14.out.bel.size ?_
                  intro v15 w15 own15 gr15 _
                  have HY15 := Lib.hid ((HY14.out.grow own15 gr15 rfl (byte1 _)))
                  have HK15 := Lib.hid (HY14.out.ke gr15)
                  clear own15 gr15
                  refine ⟨HK15.out, rest_end [12] (by kernel_rfl) (fun _ _ d _ _ h => by cases d <;> exact h) (by kernel_rfl) (by kernel_rfl) rfl ?_⟩
                  simp only [pickOps, nth, Act.put, List.setIfInBounds_toArray, List.set_cons_succ, List.set_cons_zero]
                  (repeat (go_big_quiet_step (fail)))
                  refine wpQuiet_nil ?_
                  go_wp2_with (fail)
                  go_meet
                  exact HY15.out.more (by omega)
              · skip
                simp only [pickOps, nth, Act.put, List.setIfInBounds_toArray, List.set_cons_succ, List.set_cons_zero]
                go_wp2_with (fail)
                have HB16 := Lib.hid (bel1 wd (.cells (([(fl.length : Int) % 256] : List Int).map (Value.int .u8)).toArray 5))
                have HL16 := Lib.hid (At.new wd (([(fl.length : Int) % 256] : List Int).map (Value.int .u8)).toArray 5)
                have HN16 := Lib.hid HYd.out.new
                have HY16 := Lib.hid (HYd.out.on HB16.out)
                obtain ⟨w16, hw16⟩ : ∃ W, W = wd.alloc (.cells (([(fl.length : Int) % 256] : List Int).map (Value.int .u8)).toArray 5) := ⟨_, rfl⟩
                rw [← hw16] at HY16
                rw [← hw16] at HL16
                rw [← hw16] at HB16
                (have hw' := hw16; simp only [List.map_cons, List.map_nil] at hw'; rw [← hw']; clear hw')
                clear hw16
                refine ⟨(Ke.below (AG w [(g2, #[.int .i64 fo, .int .i64 le, .int .i64 si, .int .i64 bm, .int .i64 bi, .slice fa fl.length fcc], 34), (g, #[.string nm, .slice a1 l1.length c1, .slice (some ⟨b2, o2, none⟩) l2.length c2, .slice a3 l3.length c3], 26)]) HB16.out), rest_step [] [4] (by kernel_rfl) (fun _ _ d _ _ h => by cases d <;> exact h) (by kernel_rfl) rfl (by kernel_rfl) (by decide) rfl ?_⟩
                simp only [pickOps, nth, Act.put, List.setIfInBounds_toArray, List.set_cons_succ, List.set_cons_zero]
                (repeat (go_big_quiet_step (fail)))
                refine wpQuiet_nil ?_
                refine all1 ?_
                simp only [pickOps, nth, Act.put, List.setIfInBounds_toArray, List.set_cons_succ, List.set_cons_zero]
                go_wp2_with (refine (refWord_walk (si % 4294967296) _ ⟨by omega, by omega⟩).mono ?_; rintro e w17 ⟨aw17, cw17, rfl, hr, hb⟩; have HR17 := Lib.hid hr; have HY17 := Lib.hid (HY16.out.on hb); have HK17 := Lib.hid (Ke.below (AG w [(g2, #[.int .i64 fo, .int .i64 le, .int .i64 si, .int .i64 bm, .int .i64 bi, .slice fa fl.length fcc], 34), (g, #[.string nm, .slice a1 l1.length c1, .slice (some ⟨b2, o2, none⟩) l2.length c2, .slice a3 l3.length c3], 26)]) hb); have HL17 := Lib.hid (HL16.out.bel hb); clear hr hb)
                refine ⟨HK17.out, rest_step [] [5] (by kernel_rfl) (fun _ _ d _ _ h => by cases d <;> exact h) (by kernel_rfl) rfl (by kernel_rfl) (by decide) rfl ?_⟩
                simp only [pickOps, nth, Act.put, List.setIfInBounds_toArray, List.set_cons_succ, List.set_cons_zero]
                (repeat (go_big_quiet_step (fail)))
                refine wpQuiet_nil ?_
                refine all1 ?_
                simp only [pickOps, nth, Act.put, List.setIfInBounds_toArray, List.set_cons_succ, List.set_cons_zero]
                refine append_at rfl (.tmp 89) (.tmp 93) et_u8 rfl w.heap.size rfl HY17.out.own rfl HR17.out.row (by rw [List.length_map, Nat.mul_one]; try rfl) (ints_one .u8 _) (HY17.out.room (by have := HK2.out; omega)) (HY17.out.room' (by have := HK2.out; omega)) HY17.out.bel.size ?_
                intro v18 w18 own18 gr18 _
                have HY18 := Lib.hid ((HY17.out.grow own18 gr18 rfl (wordB_byte _)))
                have HK18 := Lib.hid (HY17.out.ke gr18)
                have HL18 := Lib.hid (HL17.out.ke (Ke.ofGrown gr18) HN16.out)
                clear own18 gr18
                refine ⟨HK18.out, rest_step [] [11] (by kernel_rfl) (fun _ _ d _ _ h => by cases d <;> exact h) (by kernel_rfl) rfl (by kernel_rfl) (by decide) rfl ?_⟩
                simp only [pickOps, nth, Act.put, List.setIfInBounds_toArray, List.set_cons_succ, List.set_cons_zero]
                (repeat (go_big_quiet_step (fail)))
                refine wpQuiet_nil ?_
                refine all1 ?_
                simp only [pickOps, nth, Act.put, List.setIfInBounds_toArray, List.set_cons_succ, List.set_cons_zero]
                refine append_at rfl (.tmp 94) (.tmp 99) et_u8 rfl w.heap.size rfl HY18.out.own rfl (rd_at8r HL18.out (byte1 _) (by simp)).row (by rw [List.length_map, Nat.mul_one]; try rfl) (ints_one .u8 _) (HY18.out.room (by have := HK2.out; omega)) (HY18.out.room' (by have := HK2.out; omega)) HY18.out.bel.size ?_
                intro v19 w19 own19 gr19 _
                have HY19 := Lib.hid ((HY18.out.grow own19 gr19 rfl (byte1 _)))
                have HK19 := Lib.hid (HY18.out.ke gr19)
                clear own19 gr19
                refine ⟨HK19.out, rest_end [12] (by kernel_rfl) (fun _ _ d _ _ h => by cases d <;> exact h) (by kernel_rfl) (by kernel_rfl) rfl ?_⟩
                simp only [pickOps, nth, Act.put, List.setIfInBounds_toArray, List.set_cons_succ, List.set_cons_zero]
                (repeat (go_big_quiet_step (fail)))
                refine wpQuiet_nil ?_
                go_wp2_with (fail)
                go_meet
                exact HY19.out.more (by omega)
            case rest =>
              have HY5 := Lib.hid hcut
              clear hcut
              obtain ⟨bF, oF, hatF, hcF⟩ := HRF.out.at'
              have HATF := Lib.hid hatF
              have HCF := Lib.hid hcF
              have HOKF := Lib.hid HRF.out.all
              dsimp only at HATF HCF HOKF
              clear hatF hcF
              go_wp2_with (fail)
              go_loopw [3, 7] (fun b i wr => ∃ j : Nat, i = .int .i64 j ∧ j ≤ fl.length ∧ Ac w wr [(g2, #[.int .i64 fo, .int .i64 le, .int .i64 si, .int .i64 bm, .int .i64 bi, .slice fa fl.length fcc], 34), (g, #[.string nm, .slice a1 l1.length c1, .slice (some ⟨b2, o2, none⟩) l2.length c2, .slice a3 l3.length c3], 26)] (242 + 2300 * k + 6 + 22 * j) b (XF (XB l1 l2 k ++ [fo % 256] ++ wordB (si % 4294967296) ++ [(fl.length : Int) % 256]) fl j)) (fun _ i _ => fl.length - (intOf i).toNat)
              case atStart => exact ⟨0, rfl, Nat.zero_le _, HY5.out.re (XF_zero _ _).symm⟩
              case round =>
                obtain ⟨j, rfl, hj, hy⟩ := hrel
                have HYs := Lib.hid hy
                have hc := HYs.out.is (v := .slice fa fl.length fcc) 0 rfl 5 rfl
                clear hy HY5
                by_cases hlj : j < fl.length
                · obtain ⟨⟨xn, xo, ⟨xm, xi⟩⟩, hz⟩ := get_lt hlj
                  obtain ⟨rfl, hbF⟩ := HATF.out (by omega)
                  have HZ := Lib.hid hz
                  have HLJ := Lib.hid hlj
                  clear HCO
                  have HCO : Hid (∀ (q : Nat) (y : Value), ([.string xn, .int .i64 xo, .int .i64 xm, .int .i64 xi] : List Value)[q]? = some y → wr.cell? ⟨bF, oF + j * 4 + q, none⟩ = some y) := Lib.hid (fun q y hy => (HYs.out.bel.cell (p := ⟨bF, oF + j * 4 + q, none⟩) hbF).trans (HCF.out j _ hz q y hy))
                  obtain ⟨_, ⟨z1, z1'⟩, ⟨z2, z2'⟩, z3, z3'⟩ := HOKF.out _ (List.mem_of_getElem? hz)
                  dsimp only at z1 z1' z2 z2' z3 z3'
                  have hnl : xn.size ≤ 15 := HFN.out _ (List.mem_of_getElem? hz)
                  have HXN : Hid (xn.size ≤ 1000000) := Lib.hid (by omega)
                  have HXL : Hid ((nameB xn).length ≤ 16) := Lib.hid (by rw [nameB_len]; omega)
                  have HJ1 : Hid (j < 100) := Lib.hid (by have := HFL.out; omega)
                  clear hz hbF hnl
                  obtain ⟨g3, hg3⟩ : ∃ g3, g3 = wr.heap.size := ⟨_, rfl⟩
                  have HG3 := Lib.hid hg3
                  clear hg3
                  have q6 : True := trivial
                  have q7 : True := trivial
                  have q8 : True := trivial
                  go_wp2_with (first | (have _f := q6; refine wpList_load_mid rfl 37 (.tmp 111) rfl bF (oF + j * 4) rfl [.string xn, .int .i64 xo, .int .i64 xm, .int .i64 xi] _ HCO.out Try.underlying37 rfl (by kernel_rfl) ?_; clear _f q6) | (have _f := q7; refine alloc_sep rfl 37 rfl (HSN.out _) (z := .agg #[.string ⟨#[]⟩, .int .i64 0, .int .i64 0, .int .i64 0]) (cs := #[.string ⟨#[]⟩, .int .i64 0, .int .i64 0, .int .i64 0]) (by kernel_rfl) rfl ?_; intro wc S' b' s'; have HSc := Lib.hid S'; have HBc := Lib.hid b'; clear S' b' s'; clear _f q7) | (have _f := q8; refine store_sep (cells := #[.string xn, .int .i64 xo, .int .i64 xm, .int .i64 xi]) rfl 37 (.tmp 8) (.tmp 112) rfl HSc.out 0 rfl rfl rfl (by kernel_rfl) rfl rfl ?_; intro we S' k' s'; have HYe := Lib.hid ((HYs.out.on (((Ke.below (· = wr.heap.size) HBc.out).trans k').toBelow (fun i hi e => absurd e (Nat.ne_of_lt hi)))).push (S'.at 0 rfl) (by decide)); clear S' k' s'; rw [← HG3.out] at HYe ⊢; clear hc; clear _f q8))
                  refine wp_region_mixK (AG w [(g3, #[.string xn, .int .i64 xo, .int .i64 xm, .int .i64 xi], 37), (g2, #[.int .i64 fo, .int .i64 le, .int .i64 si, .int .i64 bm, .int .i64 bi, .slice (some ⟨bF, oF, none⟩) fl.length fcc], 34), (g, #[.string nm, .slice a1 l1.length c1, .slice (some ⟨b2, o2, none⟩) l2.length c2, .slice a3 l3.length c3], 26)]) [([0, 1, 2, 5, 6, 7], 3), ([], 4), ([], 8), ([], 9)] [10] (by kernel_rfl) (by kernel_rfl) (fun _ _ d _ _ h => by cases d <;> exact h) ?_
                  intro wd hbd
                  have HYd := Lib.hid (HYe.out.on hbd)
                  clear hbd
                  have lc0 := fun x => HYd.out.cell (v := .string xn) 0 rfl 0 rfl x
                  have lc1 := fun x => HYd.out.cell (v := .int .i64 xo) 0 rfl 1 rfl x
                  refine mixK_step ?_
                  simp only [pickOps, nth, Act.put, List.setIfInBounds_toArray, List.set_cons_succ, List.set_cons_zero]
                  (repeat (go_big_quiet_step (fail)))
                  refine wpQuiet_nil ?_
                  clear lc0 lc1
                  go_wp2_with (refine (refName_walk xn _ HXN.out).mono ?_; rintro e w20 ⟨aw20, cw20, rfl, hr, hb⟩; have HR20 := Lib.hid hr; have HY20 := Lib.hid (HYd.out.on hb); have HK20 := Lib.hid (Ke.below (AG w [(g3, #[.string xn, .int .i64 xo, .int .i64 xm, .int .i64 xi], 37), (g2, #[.int .i64 fo, .int .i64 le, .int .i64 si, .int .i64 bm, .int .i64 bi, .slice (some ⟨bF, oF, none⟩) fl.length fcc], 34), (g, #[.string nm, .slice a1 l1.length c1, .slice (some ⟨b2, o2, none⟩) l2.length c2, .slice a3 l3.length c3], 26)]) hb); clear hr hb)
                  refine ⟨HK20.out, mixK_step ?_⟩
                  simp only [pickOps, nth, Act.put, List.setIfInBounds_toArray, List.set_cons_succ, List.set_cons_zero]
                  (repeat (go_big_quiet_step (fail)))
                  refine wpQuiet_nil ?_
                  refine append_at rfl (.tmp 113) (.tmp 116) et_u8 rfl w.heap.size rfl HY20.out.own rfl HR20.out.row (by rw [List.length_map, Nat.mul_one]; try rfl) (ints_one .u8 _) (HY20.out.room (by have := HK2.out; have := HJ1.out; have := HXL.out; omega)) (HY20.out.room' (by have := HK2.out; have := HJ1.out; have := HXL.out; omega)) HY20.out.bel.size ?_
                  intro v21 w21 own21 gr21 _
                  have HY21 := Lib.hid ((HY20.out.grow own21 gr21 rfl (nameB_byte xn)).more (show 242 + 2300 * k + 6 + 22 * j + (nameB xn).length ≤ 242 + 2300 * k + 6 + 22 * j + 16 by have := HXL.out; omega))
                  have HK21 := Lib.hid (HY20.out.ke gr21)
                  clear own21 gr21
                  refine ⟨HK21.out, mixK_step ?_⟩
                  simp only [pickOps, nth, Act.put, List.setIfInBounds_toArray, List.set_cons_succ, List.set_cons_zero]
                  (repeat (go_big_quiet_step (fail)))
                  refine wpQuiet_nil ?_
                  go_wp2_with (refine (refWord_walk (xo % 4294967296) _ ⟨by omega, by omega⟩).mono ?_; rintro e w22 ⟨aw22, cw22, rfl, hr, hb⟩; have HR22 := Lib.hid hr; have HY22 := Lib.hid (HY21.out.on hb); have HK22 := Lib.hid (Ke.below (AG w [(g3, #[.string xn, .int .i64 xo, .int .i64 xm, .int .i64 xi], 37), (g2, #[.int .i64 fo, .int .i64 le, .int .i64 si, .int .i64 bm, .int .i64 bi, .slice (some ⟨bF, oF, none⟩) fl.length fcc], 34), (g, #[.string nm, .slice a1 l1.length c1, .slice (some ⟨b2, o2, none⟩) l2.length c2, .slice a3 l3.length c3], 26)]) hb); clear hr hb)
                  refine ⟨HK22.out, mixK_step ?_⟩
                  simp only [pickOps, nth, Act.put, List.setIfInBounds_toArray, List.set_cons_succ, List.set_cons_zero]
                  (repeat (go_big_quiet_step (fail)))
                  refine wpQuiet_nil ?_
                  refine append_at rfl (.tmp 117) (.tmp 121) et_u8 rfl w.heap.size rfl HY22.out.own rfl HR22.out.row (by rw [List.length_map, Nat.mul_one]; try rfl) (ints_one .u8 _) (HY22.out.room (by have := HK2.out; have := HJ1.out; have := HXL.out; omega)) (HY22.out.room' (by have := HK2.out; have := HJ1.out; have := HXL.out; omega)) HY22.out.bel.size ?_
                  intro v23 w23 own23 gr23 _
                  have HY23 := Lib.hid ((HY22.out.grow own23 gr23 rfl (wordB_byte _)))
                  have HK23 := Lib.hid (HY22.out.ke gr23)
                  clear own23 gr23
                  refine ⟨HK23.out, mixK_end ?_⟩
                  simp only [pickOps, nth, Act.put, List.setIfInBounds_toArray, List.set_cons_succ, List.set_cons_zero]
                  (repeat (go_big_quiet_step (fail)))
                  refine wpQuiet_nil ?_
                  have q9 : True := trivial
                  have q10 : True := trivial
                  have q11 : True := trivial
                  go_wp2_with (first | (have _f := q9; refine wpList_load_mid rfl 30 (.tmp 124) rfl g3 2 rfl [.int .i64 xm, .int .i64 xi] _ (fun q y hy => (HY23.out.is 0 rfl (2 + q) (by match q, hy with | 0, hy => exact hy | 1, hy => exact hy))) Try.underlying30 rfl (by kernel_rfl) ?_; clear _f q9) | (have _f := q10; refine (refRef_walk xm xi _).mono ?_; rintro e w24 ⟨aw24, cw24, rfl, hr, hb⟩; have HR24 := Lib.hid hr; have HY24 := Lib.hid (HY23.out.on hb); clear hr hb; clear _f q10) | (have _f := q11; at_builtin; refine append_at rfl (.tmp 123) (.tmp 126) et_u8 rfl w.heap.size rfl HY24.out.own rfl HR24.out.row (by rw [List.length_map, Nat.mul_one]; try rfl) (ints_one .u8 _) (HY24.out.room (by have := HK2.out; have := HJ1.out; have := HXL.out; omega)) (HY24.out.room' (by have := HK2.out; have := HJ1.out; have := HXL.out; omega)) HY24.out.bel.size ?_; intro v25 w25 own25 gr25 _; have HY25 := Lib.hid ((HY24.out.grow own25 gr25 rfl (refB2_byte _))); clear own25 gr25; clear _f q11))
                  go_roundw
                  case rel => exact ⟨j + 1, by go_num, HLJ.out, ((HY25.out.pop).more (by omega)).re (XF_next HZ.out)⟩
                  case measure => simp [intOf]; have := HLJ.out; omega
                · have hj2 : j = fl.length := by omega
                  subst hj2
                  go_wp2_with (fail)
                  go_roundw
                  case rel => exact ⟨k + 1, by go_num, HLT.out, ((HYs.out.pop).more (by have := HFL.out; omega)).re (XB_2 HX.out HF2.out)⟩
                  case measure => simp [intOf]; have := HLT.out; omega
          have e2 : (fo != 2) = true := by rw [bne_iff_ne]; exact hf2
          by_cases hf1 : fo = 1
          · have e1 : (fo == 1) = true := by rw [hf1]; rfl
            have HF1 := Lib.hid hf1
            clear hf1 hf2
            have q12 : True := trivial
            have q13 : True := trivial
            have q14 : True := trivial
            have q15 : True := trivial
            go_wp2_with (first | (have _f := q12; refine wpList_load_mid rfl 34 (.tmp 59) rfl b2 (o2 + k * 6) rfl [.int .i64 fo, .int .i64 le, .int .i64 si, .int .i64 bm, .int .i64 bi, .slice fa fl.length fcc] _ HCO.out Try.underlying34 rfl (by kernel_rfl) ?_; clear _f q12) | (have _f := q13; refine alloc_sep rfl 34 rfl (HSN.out _) (z := .agg #[.int .i64 0, .int .i64 0, .int .i64 0, .int .i64 0, .int .i64 0, .slice none 0 0]) (cs := #[.int .i64 0, .int .i64 0, .int .i64 0, .int .i64 0, .int .i64 0, .slice none 0 0]) (by kernel_rfl) rfl ?_; intro wc S' b' s'; have HSc := Lib.hid S'; have HBc := Lib.hid b'; clear S' b' s'; clear _f q13) | (have _f := q14; refine store_sep (cells := #[.int .i64 fo, .int .i64 le, .int .i64 si, .int .i64 bm, .int .i64 bi, .slice fa fl.length fcc]) rfl 34 (.tmp 6) (.tmp 60) rfl HSc.out 0 rfl rfl rfl (by kernel_rfl) rfl rfl ?_; intro we S' k' s'; have HYe := Lib.hid ((HYr.out.on (((Ke.below (· = wt.heap.size) HBc.out).trans k').toBelow (fun i hi e => absurd e (Nat.ne_of_lt hi)))).push (S'.at 0 rfl) (by decide)); clear S' k' s'; rw [← HG2.out] at HYe ⊢; have y0 := HYe.out.is (v := .int .i64 fo) 0 rfl 0 rfl; clear hc; have HB26 := Lib.hid (bel1 we (.cells (([fo % 256] : List Int).map (Value.int .u8)).toArray 5)); have HL26 := Lib.hid (At.new we (([fo % 256] : List Int).map (Value.int .u8)).toArray 5); have HY26 := Lib.hid (HYe.out.on HB26.out); clear _f q14) | (have _f := q15; at_builtin; refine append_at rfl (.tmp 61) (.tmp 65) et_u8 rfl w.heap.size rfl HY26.out.own rfl (rd_at8r HL26.out (byte1 _) (by simp)).row (by rw [List.length_map, Nat.mul_one]; try rfl) (ints_one .u8 _) (HY26.out.room (by have := HK2.out; omega)) (HY26.out.room' (by have := HK2.out; omega)) HY26.out.bel.size ?_; intro v27 w27 own27 gr27 _; have HY27 := Lib.hid ((HY26.out.grow own27 gr27 rfl (byte1 _))); clear own27 gr27; have y0 := HY27.out.is (v := .int .i64 fo) 0 rfl 0 rfl; clear _f q15))
            refine wp_region_mixK (AG w [(g2, #[.int .i64 fo, .int .i64 le, .int .i64 si, .int .i64 bm, .int .i64 bi, .slice fa fl.length fcc], 34), (g, #[.string nm, .slice a1 l1.length c1, .slice (some ⟨b2, o2, none⟩) l2.length c2, .slice a3 l3.length c3], 26)]) [([0, 1, 2, 3, 6, 7, 8], 4), ([], 5), ([], 9), ([], 10)] [11] (by kernel_rfl) (by kernel_rfl) (fun _ _ d _ _ h => by cases d <;> exact h) ?_
            intro wd hbd
            have HYd := Lib.hid (HY27.out.on hbd)
            clear hbd
            have lc1 := fun x => HYd.out.cell (v := .int .i64 le) 0 rfl 1 rfl x
            have lc2 := fun x => HYd.out.cell (v := .int .i64 si) 0 rfl 2 rfl x
            refine mixK_step ?_
            simp only [pickOps, nth, Act.put, List.setIfInBounds_toArray, List.set_cons_succ, List.set_cons_zero]
            (repeat (go_big_quiet_step (fail)))
            refine wpQuiet_nil ?_
            clear lc1 lc2
            go_wp2_with (refine (refWord_walk (le % 4294967296) _ ⟨by omega, by omega⟩).mono ?_; rintro e w28 ⟨aw28, cw28, rfl, hr, hb⟩; have HR28 := Lib.hid hr; have HY28 := Lib.hid (HYd.out.on hb); have HK28 := Lib.hid (Ke.below (AG w [(g2, #[.int .i64 fo, .int .i64 le, .int .i64 si, .int .i64 bm, .int .i64 bi, .slice fa fl.length fcc], 34), (g, #[.string nm, .slice a1 l1.length c1, .slice (some ⟨b2, o2, none⟩) l2.length c2, .slice a3 l3.length c3], 26)]) hb); clear hr hb)
            refine ⟨HK28.out, mixK_step ?_⟩
            simp only [pickOps, nth, Act.put, List.setIfInBounds_toArray, List.set_cons_succ, List.set_cons_zero]
            (repeat (go_big_quiet_step (fail)))
            refine wpQuiet_nil ?_
            refine append_at rfl (.tmp 70) (.tmp 74) et_u8 rfl w.heap.size rfl HY28.out.own rfl HR28.out.row (by rw [List.length_map, Nat.mul_one]; try rfl) (ints_one .u8 _) (HY28.out.room (by have := HK2.out; omega)) (HY28.out.room' (by have := HK2.out; omega)) HY28.out.bel.size ?_
            intro v29 w29 own29 gr29 _
            have HY29 := Lib.hid ((HY28.out.grow own29 gr29 rfl (wordB_byte _)))
            have HK29 := Lib.hid (HY28.out.ke gr29)
            clear own29 gr29
            refine ⟨HK29.out, mixK_step ?_⟩
            simp only [pickOps, nth, Act.put, List.setIfInBounds_toArray, List.set_cons_succ, List.set_cons_zero]
            (repeat (go_big_quiet_step (fail)))
            refine wpQuiet_nil ?_
            go_wp2_with (refine (refWord_walk (si % 4294967296) _ ⟨by omega, by omega⟩).mono ?_; rintro e w30 ⟨aw30, cw30, rfl, hr, hb⟩; have HR30 := Lib.hid hr; have HY30 := Lib.hid (HY29.out.on hb); have HK30 := Lib.hid (Ke.below (AG w [(g2, #[.int .i64 fo, .int .i64 le, .int .i64 si, .int .i64 bm, .int .i64 bi, .slice fa fl.length fcc], 34), (g, #[.string nm, .slice a1 l1.length c1, .slice (some ⟨b2, o2, none⟩) l2.length c2, .slice a3 l3.length c3], 26)]) hb); clear hr hb)
            refine ⟨HK30.out, mixK_step ?_⟩
            simp only [pickOps, nth, Act.put, List.setIfInBounds_toArray, List.set_cons_succ, List.set_cons_zero]
            (repeat (go_big_quiet_step (fail)))
            refine wpQuiet_nil ?_
            refine append_at rfl (.tmp 75) (.tmp 79) et_u8 rfl w.heap.size rfl HY30.out.own rfl HR30.out.row (by rw [List.length_map, Nat.mul_one]; try rfl) (ints_one .u8 _) (HY30.out.room (by have := HK2.out; omega)) (HY30.out.room' (by have := HK2.out; omega)) HY30.out.bel.size ?_
            intro v31 w31 own31 gr31 _
            have HY31 := Lib.hid ((HY30.out.grow own31 gr31 rfl (wordB_byte _)))
            have HK31 := Lib.hid (HY30.out.ke gr31)
            clear own31 gr31
            refine ⟨HK31.out, mixK_end ?_⟩
            simp only [pickOps, nth, Act.put, List.setIfInBounds_toArray, List.set_cons_succ, List.set_cons_zero]
            (repeat (go_big_quiet_step (fail)))
            refine wpQuiet_nil ?_
            have y0 := HY31.out.is (v := .int .i64 fo) 0 rfl 0 rfl
            have q16 : True := trivial
            have q17 : True := trivial
            have q18 : True := trivial
            go_wp2_with (first | (have _f := q16; refine wpList_load_mid rfl 30 (.tmp 85) rfl g2 3 rfl [.int .i64 bm, .int .i64 bi] _ (fun q y hy => (HY31.out.is 0 rfl (3 + q) (by match q, hy with | 0, hy => exact hy | 1, hy => exact hy))) Try.underlying30 rfl (by kernel_rfl) ?_; clear _f q16) | (have _f := q17; refine (refRef_walk bm bi _).mono ?_; rintro e w32 ⟨aw32, cw32, rfl, hr, hb⟩; have HR32 := Lib.hid hr; have HY32 := Lib.hid (HY31.out.on hb); clear hr hb; clear _f q17) | (have _f := q18; at_builtin; refine append_at rfl (.tmp 84) (.tmp 87) et_u8 rfl w.heap.size rfl HY32.out.own rfl HR32.out.row (by rw [List.length_map, Nat.mul_one]; try rfl) (ints_one .u8 _) (HY32.out.room (by have := HK2.out; omega)) (HY32.out.room' (by have := HK2.out; omega)) HY32.out.bel.size ?_; intro v33 w33 own33 gr33 _; have HY33 := Lib.hid ((HY32.out.grow own33 gr33 rfl (refB2_byte _))); clear own33 gr33; clear _f q18))
            go_roundw
            case rel => exact ⟨k + 1, by go_num, HLT.out, ((HY33.out.pop).more (by omega)).re (XB_1 HX.out HF1.out)⟩
            case measure => simp [intOf]; have := HLT.out; omega
          have e1 : (fo == 1) = false := by rw [beq_eq_false_iff_ne]; exact hf1
          have HF12 := Lib.hid (And.intro hf1 hf2)
          clear hf1 hf2
          have q19 : True := trivial
          have q20 : True := trivial
          have q21 : True := trivial
          have q22 : True := trivial
          have q23 : True := trivial
          have q24 : True := trivial
          have q25 : True := trivial
          go_wp2_with (first | (have _f := q19; refine wpList_load_mid rfl 34 (.tmp 59) rfl b2 (o2 + k * 6) rfl [.int .i64 fo, .int .i64 le, .int .i64 si, .int .i64 bm, .int .i64 bi, .slice fa fl.length fcc] _ HCO.out Try.underlying34 rfl (by kernel_rfl) ?_; clear _f q19) | (have _f := q20; refine alloc_sep rfl 34 rfl (HSN.out _) (z := .agg #[.int .i64 0, .int .i64 0, .int .i64 0, .int .i64 0, .int .i64 0, .slice none 0 0]) (cs := #[.int .i64 0, .int .i64 0, .int .i64 0, .int .i64 0, .int .i64 0, .slice none 0 0]) (by kernel_rfl) rfl ?_; intro wc S' b' s'; have HSc := Lib.hid S'; have HBc := Lib.hid b'; clear S' b' s'; clear _f q20) | (have _f := q21; refine store_sep (cells := #[.int .i64 fo, .int .i64 le, .int .i64 si, .int .i64 bm, .int .i64 bi, .slice fa fl.length fcc]) rfl 34 (.tmp 6) (.tmp 60) rfl HSc.out 0 rfl rfl rfl (by kernel_rfl) rfl rfl ?_; intro we S' k' s'; have HYe := Lib.hid ((HYr.out.on (((Ke.below (· = wt.heap.size) HBc.out).trans k').toBelow (fun i hi e => absurd e (Nat.ne_of_lt hi)))).push (S'.at 0 rfl) (by decide)); clear S' k' s'; rw [← HG2.out] at HYe ⊢; have y0 := HYe.out.is (v := .int .i64 fo) 0 rfl 0 rfl; clear hc; have HB34 := Lib.hid (bel1 we (.cells (([fo % 256] : List Int).map (Value.int .u8)).toArray 5)); have HL34 := Lib.hid (At.new we (([fo % 256] : List Int).map (Value.int .u8)).toArray 5); have HY34 := Lib.hid (HYe.out.on HB34.out); clear _f q21) | (have _f := q22; at_builtin; refine append_at rfl (.tmp 61) (.tmp 65) et_u8 rfl w.heap.size rfl HY34.out.own rfl (rd_at8r HL34.out (byte1 _) (by simp)).row (by rw [List.length_map, Nat.mul_one]; try rfl) (ints_one .u8 _) (HY34.out.room (by have := HK2.out; omega)) (HY34.out.room' (by have := HK2.out; omega)) HY34.out.bel.size ?_; intro v35 w35 own35 gr35 _; have HY35 := Lib.hid ((HY34.out.grow own35 gr35 rfl (byte1 _))); clear own35 gr35; have y0 := HY35.out.is (v := .int .i64 fo) 0 rfl 0 rfl; clear _f q22) | (have _f := q23; refine wpList_load_mid rfl 30 (.tmp 85) rfl g2 3 rfl [.int .i64 bm, .int .i64 bi] _ (fun q y hy => (HY35.out.is 0 rfl (3 + q) (by match q, hy with | 0, hy => exact hy | 1, hy => exact hy))) Try.underlying30 rfl (by kernel_rfl) ?_; clear _f q23) | (have _f := q24; refine (refRef_walk bm bi _).mono ?_; rintro e w36 ⟨aw36, cw36, rfl, hr, hb⟩; have HR36 := Lib.hid hr; have HY36 := Lib.hid (HY35.out.on hb); clear hr hb; clear _f q24) | (have _f := q25; at_builtin; refine append_at rfl (.tmp 84) (.tmp 87) et_u8 rfl w.heap.size rfl HY36.out.own rfl HR36.out.row (by rw [List.length_map, Nat.mul_one]; try rfl) (ints_one .u8 _) (HY36.out.room (by have := HK2.out; omega)) (HY36.out.room' (by have := HK2.out; omega)) HY36.out.bel.size ?_; intro v37 w37 own37 gr37 _; have HY37 := Lib.hid ((HY36.out.grow own37 gr37 rfl (refB2_byte _))); clear own37 gr37; clear _f q25))
          go_roundw
          case rel => exact ⟨k + 1, by go_num, HLT.out, ((HY37.out.pop).more (by omega)).re (XB_0 HX.out HF12.out.1 HF12.out.2)⟩
          case measure => simp [intOf]; have := HLT.out; omega
        · have hk2 : k = l2.length := by omega
          subst hk2
          have hc3 := HYr.out.is (v := .slice a3 l3.length c3) 0 rfl 3 rfl
          clear HSN
          have HSN := Lib.hid (fun w' : World => Sep.nil w')
          have q26 : True := trivial
          have q27 : True := trivial
          go_wp2_with (first | (have _f := q26; refine (refWord_walk ((l3.length : Int) % 4294967296) _ ⟨by omega, by omega⟩).mono ?_; rintro e w38 ⟨aw38, cw38, rfl, hr, hb⟩; have HR38 := Lib.hid hr; have HY38 := Lib.hid (HYr.out.on hb); clear hr hb; clear _f q26) | (have _f := q27; at_builtin; refine append_at rfl (.tmp 128) (.tmp 133) et_u8 rfl w.heap.size rfl HY38.out.own rfl HR38.out.row (by rw [List.length_map, Nat.mul_one]; try rfl) (ints_one .u8 _) (HY38.out.room (by have := HN2.out; omega)) (HY38.out.room' (by have := HN2.out; omega)) HY38.out.bel.size ?_; intro v39 w39 own39 gr39 _; have HY39 := Lib.hid ((HY38.out.grow own39 gr39 rfl (wordB_byte _))); clear own39 gr39; clear _f q27))
          have HY3 : Hid (Ac w w39 [(g, #[.string nm, .slice a1 l1.length c1, .slice a2 l2.length c2, .slice a3 l3.length c3], 26)] 460246 v39 (XC l1 l2 l3 0)) := Lib.hid ((HY39.out.more (by have := HN2.out; omega)).re (XC_zero l1 l2 l3).symm)
          clear HY39 HYr hlt hk hc hc3 HY38 HR38
          go_loopw [3, 9] (fun b i wr => ∃ k : Nat, i = .int .i64 k ∧ k ≤ l3.length ∧ Ac w wr [(g, #[.string nm, .slice a1 l1.length c1, .slice a2 l2.length c2, .slice a3 l3.length c3], 26)] (460246 + 60 * k) b (XC l1 l2 l3 k)) (fun _ i _ => l3.length - (intOf i).toNat)
          case atStart => exact ⟨0, rfl, Nat.zero_le _, HY3.out⟩
          case round =>
            clear HY3
            obtain ⟨wo, rfl⟩ : ∃ wo : World, wo = wr := ⟨_, rfl⟩
            obtain ⟨k, rfl, hk, hy⟩ := hrel
            have HYr := Lib.hid hy
            have hc := HYr.out.is (v := .slice a3 l3.length c3) 0 rfl 3 rfl
            clear hy
            by_cases hlt : k < l3.length
            · obtain ⟨⟨cl, on, ⟨bm, bi⟩, va, ⟨pa, pc, pl⟩⟩, hx⟩ := get_lt hlt
              obtain ⟨rfl, hb⟩ := HAT3.out (by omega)
              have HX := Lib.hid hx
              have HLT := Lib.hid hlt
              have HCO : Hid (∀ (q : Nat) (y : Value), ([.int .i64 cl, .string on, .int .i64 bm, .int .i64 bi, .int .u32 va, .slice pa pl.length pc] : List Value)[q]? = some y → wo.cell? ⟨b3, o3 + k * 6 + q, none⟩ = some y) := Lib.hid (fun q y hy => (HYr.out.bel.cell (p := ⟨b3, o3 + k * 6 + q, none⟩) hb).trans (HC3.out k _ hx q y hy))
              obtain ⟨⟨u1, u1'⟩, _, ⟨⟨u4, u4'⟩, u5, u5'⟩, ⟨u2, u2'⟩, hrf⟩ := HOK3.out _ (List.mem_of_getElem? hx)
              dsimp only at u1 u1' u2 u2' u4 u4' u5 u5' hrf
              have HRP := Lib.hid hrf
              have hpl := hrf.len
              dsimp only at hpl
              have HPL : Hid (pl.length ≤ 12) := Lib.hid (HSM.out.params _ (List.mem_of_getElem? hx))
              have hnl : on.size ≤ 15 := HSM.out.onames _ (List.mem_of_getElem? hx)
              have HXN : Hid (on.size ≤ 1000000) := Lib.hid (by omega)
              have HXL : Hid ((nameB on).length ≤ 16) := Lib.hid (by rw [nameB_len]; omega)
              have HVA : Hid (0 ≤ va ∧ va < 4294967296) := Lib.hid ⟨u2, u2'⟩
              have HK3 : Hid (k < 900) := Lib.hid (by have := HN3.out; omega)
              clear hx hb hrf hnl
              obtain ⟨g4, hg4⟩ : ∃ g4, g4 = wo.heap.size := ⟨_, rfl⟩
              have HG4 := Lib.hid hg4
              clear hg4
              have q28 : True := trivial
              have q29 : True := trivial
              have q30 : True := trivial
              go_wp2_with (first | (have _f := q28; refine wpList_load_mid rfl 42 (.tmp 145) rfl b3 (o3 + k * 6) rfl [.int .i64 cl, .string on, .int .i64 bm, .int .i64 bi, .int .u32 va, .slice pa pl.length pc] _ HCO.out Try.underlying42 rfl (by kernel_rfl) ?_; clear _f q28) | (have _f := q29; refine alloc_sep rfl 42 rfl (HSN.out _) (z := .agg #[.int .i64 0, .string ⟨#[]⟩, .int .i64 0, .int .i64 0, .int .u32 0, .slice none 0 0]) (cs := #[.int .i64 0, .string ⟨#[]⟩, .int .i64 0, .int .i64 0, .int .u32 0, .slice none 0 0]) (by kernel_rfl) rfl ?_; intro wc S' b' s'; have HSc := Lib.hid S'; have HBc := Lib.hid b'; clear S' b' s'; clear _f q29) | (have _f := q30; refine store_sep (cells := #[.int .i64 cl, .string on, .int .i64 bm, .int .i64 bi, .int .u32 va, .slice pa pl.length pc]) rfl 42 (.tmp 10) (.tmp 146) rfl HSc.out 0 rfl rfl rfl (by kernel_rfl) rfl rfl ?_; intro we S' k' s'; have HYe := Lib.hid ((HYr.out.on (((Ke.below (· = wo.heap.size) HBc.out).trans k').toBelow (fun i hi e => absurd e (Nat.ne_of_lt hi)))).push (S'.at 0 rfl) (by decide)); clear S' k' s'; rw [← HG4.out] at HYe ⊢; clear hc; clear _f q30))
              refine wp_region_mixK (AG w [(g4, #[.int .i64 cl, .string on, .int .i64 bm, .int .i64 bi, .int .u32 va, .slice pa pl.length pc], 42), (g, #[.string nm, .slice a1 l1.length c1, .slice a2 l2.length c2, .slice (some ⟨b3, o3, none⟩) l3.length c3], 26)]) [([0, 1, 2, 3, 6, 7], 4), ([], 5), ([], 8), ([], 9)] [10] (by kernel_rfl) (by kernel_rfl) (fun _ _ d _ _ h => by cases d <;> exact h) ?_
              intro wd hbd
              have HYd := Lib.hid (HYe.out.on hbd)
              clear hbd
              have lc0 := fun x => HYd.out.cell (v := .int .i64 cl) 0 rfl 0 rfl x
              have lc1 := fun x => HYd.out.cell (v := .string on) 0 rfl 1 rfl x
              refine mixK_step ?_
              simp only [pickOps, nth, Act.put, List.setIfInBounds_toArray, List.set_cons_succ, List.set_cons_zero]
              (repeat (go_big_quiet_step (fail)))
              refine wpQuiet_nil ?_
              clear lc0 lc1
              go_wp2_with (fail)
              have HB40 := Lib.hid (bel1 wd (.cells (([cl % 256] : List Int).map (Value.int .u8)).toArray 5))
              have HL40 := Lib.hid (At.new wd (([cl % 256] : List Int).map (Value.int .u8)).toArray 5)
              have HY40 := Lib.hid (HYd.out.on HB40.out)
              obtain ⟨w40, hw40⟩ : ∃ W, W = wd.alloc (.cells (([cl % 256] : List Int).map (Value.int .u8)).toArray 5) := ⟨_, rfl⟩
              rw [← hw40] at HY40
              rw [← hw40] at HL40
              rw [← hw40] at HB40
              (have hw' := hw40; simp only [List.map_cons, List.map_nil] at hw'; rw [← hw']; clear hw')
              clear hw40
              refine ⟨(Ke.below (AG w [(g4, #[.int .i64 cl, .string on, .int .i64 bm, .int .i64 bi, .int .u32 va, .slice pa pl.length pc], 42), (g, #[.string nm, .slice a1 l1.length c1, .slice a2 l2.length c2, .slice (some ⟨b3, o3, none⟩) l3.length c3], 26)]) HB40.out), mixK_step ?_⟩
              simp only [pickOps, nth, Act.put, List.setIfInBounds_toArray, List.set_cons_succ, List.set_cons_zero]
              (repeat (go_big_quiet_step (fail)))
              refine wpQuiet_nil ?_
              refine append_at rfl (.tmp 147) (.tmp 151) et_u8 rfl w.heap.size rfl HY40.out.own rfl (rd_at8r HL40.out (byte1 _) (by simp)).row (by rw [List.length_map, Nat.mul_one]; try rfl) (ints_one .u8 _) (HY40.out.room (by have := HK3.out; have := HXL.out; omega)) (HY40.out.room' (by have := HK3.out; have := HXL.out; omega)) HY40.out.bel.size ?_
              intro v41 w41 own41 gr41 _
              have HY41 := Lib.hid ((HY40.out.grow own41 gr41 rfl (byte1 _)))
              have HK41 := Lib.hid (HY40.out.ke gr41)
              clear own41 gr41
              refine ⟨HK41.out, mixK_step ?_⟩
              simp only [pickOps, nth, Act.put, List.setIfInBounds_toArray, List.set_cons_succ, List.set_cons_zero]
              (repeat (go_big_quiet_step (fail)))
              refine wpQuiet_nil ?_
              go_wp2_with (refine (refName_walk on _ HXN.out).mono ?_; rintro e w42 ⟨aw42, cw42, rfl, hr, hb⟩; have HR42 := Lib.hid hr; have HY42 := Lib.hid (HY41.out.on hb); have HK42 := Lib.hid (Ke.below (AG w [(g4, #[.int .i64 cl, .string on, .int .i64 bm, .int .i64 bi, .int .u32 va, .slice pa pl.length pc], 42), (g, #[.string nm, .slice a1 l1.length c1, .slice a2 l2.length c2, .slice (some ⟨b3, o3, none⟩) l3.length c3], 26)]) hb); clear hr hb)
              refine ⟨HK42.out, mixK_step ?_⟩
              simp only [pickOps, nth, Act.put, List.setIfInBounds_toArray, List.set_cons_succ, List.set_cons_zero]
              (repeat (go_big_quiet_step (fail)))
              refine wpQuiet_nil ?_
              refine append_at rfl (.tmp 152) (.tmp 155) et_u8 rfl w.heap.size rfl HY42.out.own rfl HR42.out.row (by rw [List.length_map, Nat.mul_one]; try rfl) (ints_one .u8 _) (HY42.out.room (by have := HK3.out; have := HXL.out; omega)) (HY42.out.room' (by have := HK3.out; have := HXL.out; omega)) HY42.out.bel.size ?_
              intro v43 w43 own43 gr43 _
              have HY43 := Lib.hid ((HY42.out.grow own43 gr43 rfl (nameB_byte on)).more (show 460246 + 60 * k + 1 + (nameB on).length ≤ 460246 + 60 * k + 17 by have := HXL.out; omega))
              have HK43 := Lib.hid (HY42.out.ke gr43)
              clear own43 gr43
              refine ⟨HK43.out, mixK_end ?_⟩
              simp only [pickOps, nth, Act.put, List.setIfInBounds_toArray, List.set_cons_succ, List.set_cons_zero]
              (repeat (go_big_quiet_step (fail)))
              refine wpQuiet_nil ?_
              by_cases h4 : cl = 4
              · have d1 : (cl == 1) = false := by rw [h4]; rfl
                have d3 : (cl == 3) = false := by rw [h4]; rfl
                have d4 : (cl != 4) = false := by rw [h4]; rfl
                have H4 := Lib.hid h4
                clear h4
                have q31 : True := trivial
                have q32 : True := trivial
                have q33 : True := trivial
                have q34 : True := trivial
                go_wp2_with (first | (have _f := q31; refine wpList_load_mid rfl 30 (.tmp 158) rfl g4 2 rfl [.int .i64 bm, .int .i64 bi] _ (fun q y hy => (HY43.out.is 0 rfl (2 + q) (by match q, hy with | 0, hy => exact hy | 1, hy => exact hy))) Try.underlying30 rfl (by kernel_rfl) ?_; clear _f q31) | (have _f := q32; refine (refRef_walk bm bi _).mono ?_; rintro e w44 ⟨aw44, cw44, rfl, hr, hb⟩; have HR44 := Lib.hid hr; have HY44 := Lib.hid (HY43.out.on hb); clear hr hb; clear _f q32) | (have _f := q33; at_builtin; refine append_at rfl (.tmp 157) (.tmp 160) et_u8 rfl w.heap.size rfl HY44.out.own rfl HR44.out.row (by rw [List.length_map, Nat.mul_one]; try rfl) (ints_one .u8 _) (HY44.out.room (by have := HK3.out; have := HXL.out; omega)) (HY44.out.room' (by have := HK3.out; have := HXL.out; omega)) HY44.out.bel.size ?_; intro v45 w45 own45 gr45 _; have HY45 := Lib.hid ((HY44.out.grow own45 gr45 rfl (refB2_byte _))); clear own45 gr45; have y0 := HY45.out.is (v := .int .i64 cl) 0 rfl 0 rfl; have y4 := HY45.out.is (v := .int .u32 va) 0 rfl 4 rfl; have y5 := HY45.out.is (v := .slice pa pl.length pc) 0 rfl 5 rfl; have HB46 := Lib.hid (bel1 w45 (.cells (([va % 256, (pl.length : Int) % 256] : List Int).map (Value.int .u8)).toArray 5)); have HL46 := Lib.hid (At.new w45 (([va % 256, (pl.length : Int) % 256] : List Int).map (Value.int .u8)).toArray 5); have HY46 := Lib.hid (HY45.out.on HB46.out); clear _f q33) | (have _f := q34; at_builtin; refine append_at rfl (.tmp 178) (.tmp 186) et_u8 rfl w.heap.size rfl HY46.out.own rfl (rd_at8r HL46.out (byte2 _ _) (by simp)).row (by rw [List.length_map, Nat.mul_one]; try rfl) (ints_one .u8 _) (HY46.out.room (by have := HK3.out; have := HXL.out; omega)) (HY46.out.room' (by have := HK3.out; have := HXL.out; omega)) HY46.out.bel.size ?_; intro v47 w47 own47 gr47 _; have HY47 := Lib.hid ((HY46.out.grow own47 gr47 rfl (byte2 _ _))); clear own47 gr47; clear _f q34))
                obtain ⟨bP, oP, hatP, hcP⟩ := HRP.out.at'
                have HATP := Lib.hid hatP
                have HCP := Lib.hid hcP
                have HOKP := Lib.hid HRP.out.all
                dsimp only at HATP HCP HOKP
                clear hatP hcP y0 y4 y5
                go_loopw [3, 11] (fun b i wr => ∃ j : Nat, i = .int .i64 j ∧ j ≤ pl.length ∧ Ac w wr [(g4, #[.int .i64 cl, .string on, .int .i64 bm, .int .i64 bi, .int .u32 va, .slice pa pl.length pc], 42), (g, #[.string nm, .slice a1 l1.length c1, .slice a2 l2.length c2, .slice (some ⟨b3, o3, none⟩) l3.length c3], 26)] (460246 + 60 * k + 21 + 3 * j) b (XP (XC l1 l2 l3 k ++ [cl % 256] ++ nameB on ++ refB2 ⟨bm, bi⟩ ++ [va % 256, (pl.length : Int) % 256]) pl j)) (fun _ i _ => pl.length - (intOf i).toNat)
                case atStart => exact ⟨0, rfl, Nat.zero_le _, (HY47.out.more (by omega)).re (XP_zero _ _).symm⟩
                case round =>
                  obtain ⟨j, rfl, hj, hy⟩ := hrel
                  have HYs := Lib.hid hy
                  have hc := HYs.out.is (v := .slice pa pl.length pc) 0 rfl 5 rfl
                  clear hy
                  by_cases hlj : j < pl.length
                  · obtain ⟨⟨xv, ⟨xm, xi⟩⟩, hz⟩ := get_lt hlj
                    obtain ⟨rfl, hbP⟩ := HATP.out (by omega)
                    have HZ := Lib.hid hz
                    have HLJ := Lib.hid hlj
                    have HBP := Lib.hid hbP
                    have hv : wr.cell? ⟨bP, oP + j * 3, none⟩ = some (.bool xv) := (HYs.out.bel.cell (p := ⟨bP, oP + j * 3, none⟩) hbP).trans (HCP.out j _ hz 0 _ rfl)
                    obtain ⟨⟨z2, z2'⟩, z3, z3'⟩ := HOKP.out _ (List.mem_of_getElem? hz)
                    dsimp only at z2 z2' z3 z3'
                    have HJ1 : Hid (j < 12) := Lib.hid (by have := HPL.out; omega)
                    clear hz hbP
                    cases xv
                    · go_wp2_with (fail)
                      clear hv hc
                      refine wp_region_mixK (AG w [(g4, #[.int .i64 cl, .string on, .int .i64 bm, .int .i64 bi, .int .u32 va, .slice (some ⟨bP, oP, none⟩) pl.length pc], 42), (g, #[.string nm, .slice a1 l1.length c1, .slice a2 l2.length c2, .slice (some ⟨b3, o3, none⟩) l3.length c3], 26)]) [([0, 1, 4, 5, 6, 7, 8, 9], 2), ([], 3), ([], 10), ([], 11)] [12] (by kernel_rfl) (by kernel_rfl) (fun _ _ d _ _ h => by cases d <;> exact h) ?_
                      intro wd hbd
                      have HYd := Lib.hid (HYs.out.on hbd)
                      clear hbd
                      have lc5 := fun x => HYd.out.cell (v := .slice (some ⟨bP, oP, none⟩) pl.length pc) 0 rfl 5 rfl x
                      have ls := fun x : Later (Ke (AG w [(g4, #[.int .i64 cl, .string on, .int .i64 bm, .int .i64 bi, .int .u32 va, .slice (some ⟨bP, oP, none⟩) pl.length pc], 42), (g, #[.string nm, .slice a1 l1.length c1, .slice a2 l2.length c2, .slice (some ⟨b3, o3, none⟩) l3.length c3], 26)]) wd) => loads_mid (P := Try.prog) (w := x.w) (b := bP) (o := oP + j * 3 + 1) (cs := [.int .i64 xm, .int .i64 xi]) (fun q v hv => by rw [Nat.add_assoc (oP + j * 3)]; exact HYd.out.old (p := ⟨bP, oP + j * 3 + (1 + q), none⟩) HBP.out (HCP.out j _ HZ.out (1 + q) v (by match q, hv with | 0, hv => exact hv | 1, hv => exact hv)) x) Try.underlying30 rfl (by kernel_rfl)
                      refine mixK_step ?_
                      simp only [pickOps, nth, Act.put, List.setIfInBounds_toArray, List.set_cons_succ, List.set_cons_zero]
                      (repeat (go_big_quiet_step (fail)))
                      (go_big_quiet_want; refine quiet_row2 30 (.tmp 209) rfl rfl ls ?_; go_big_quiet_on)
                      simp only [pickOps, nth, Act.put, List.setIfInBounds_toArray, List.set_cons_succ, List.set_cons_zero]
                      (repeat (go_big_quiet_step (fail)))
                      refine wpQuiet_nil ?_
                      clear lc5 ls
                      go_wp2_with (fail)
                      have HB48 := Lib.hid (bel1 wd (.cells (([0] : List Int).map (Value.int .u8)).toArray 5))
                      have HL48 := Lib.hid (At.new wd (([0] : List Int).map (Value.int .u8)).toArray 5)
                      have HY48 := Lib.hid (HYd.out.on HB48.out)
                      obtain ⟨w48, hw48⟩ : ∃ W, W = wd.alloc (.cells (([0] : List Int).map (Value.int .u8)).toArray 5) := ⟨_, rfl⟩
                      rw [← hw48] at HY48
                      rw [← hw48] at HL48
                      rw [← hw48] at HB48
                      (have hw' := hw48; simp only [List.map_cons, List.map_nil] at hw'; rw [← hw']; clear hw')
                      clear hw48
                      refine ⟨(Ke.below (AG w [(g4, #[.int .i64 cl, .string on, .int .i64 bm, .int .i64 bi, .int .u32 va, .slice (some ⟨bP, oP, none⟩) pl.length pc], 42), (g, #[.string nm, .slice a1 l1.length c1, .slice a2 l2.length c2, .slice (some ⟨b3, o3, none⟩) l3.length c3], 26)]) HB48.out), mixK_step ?_⟩
                      simp only [pickOps, nth, Act.put, List.setIfInBounds_toArray, List.set_cons_succ, List.set_cons_zero]
                      (repeat (go_big_quiet_step (fail)))
                      refine wpQuiet_nil ?_
                      refine append_at rfl (.tmp 201) (.tmp 203) et_u8 rfl w.heap.size rfl HY48.out.own rfl (rd_at8r HL48.out (byteV false) (by simp)).row (by rw [List.length_map, Nat.mul_one]; try rfl) (ints_one .u8 _) (HY48.out.room (by have := HK3.out; have := HJ1.out; omega)) (HY48.out.room' (by have := HK3.out; have := HJ1.out; omega)) HY48.out.bel.size ?_
                      intro v49 w49 own49 gr49 _
                      have HY49 := Lib.hid ((HY48.out.grow own49 gr49 rfl (byteV false)))
                      have HK49 := Lib.hid (HY48.out.ke gr49)
                      clear own49 gr49
                      refine ⟨HK49.out, mixK_step ?_⟩
                      simp only [pickOps, nth, Act.put, List.setIfInBounds_toArray, List.set_cons_succ, List.set_cons_zero]
                      (repeat (go_big_quiet_step (fail)))
                      refine wpQuiet_nil ?_
                      go_wp2_with (refine (refRef_walk xm xi _).mono ?_; rintro e w50 ⟨aw50, cw50, rfl, hr, hb⟩; have HR50 := Lib.hid hr; have HY50 := Lib.hid (HY49.out.on hb); have HK50 := Lib.hid (Ke.below (AG w [(g4, #[.int .i64 cl, .string on, .int .i64 bm, .int .i64 bi, .int .u32 va, .slice (some ⟨bP, oP, none⟩) pl.length pc], 42), (g, #[.string nm, .slice a1 l1.length c1, .slice a2 l2.length c2, .slice (some ⟨b3, o3, none⟩) l3.length c3], 26)]) hb); clear hr hb)
                      refine ⟨HK50.out, mixK_step ?_⟩
                      simp only [pickOps, nth, Act.put, List.setIfInBounds_toArray, List.set_cons_succ, List.set_cons_zero]
                      (repeat (go_big_quiet_step (fail)))
                      refine wpQuiet_nil ?_
                      refine append_at rfl (.tmp 204) (.tmp 211) et_u8 rfl w.heap.size rfl HY50.out.own rfl HR50.out.row (by rw [List.length_map, Nat.mul_one]; try rfl) (ints_one .u8 _) (HY50.out.room (by have := HK3.out; have := HJ1.out; omega)) (HY50.out.room' (by have := HK3.out; have := HJ1.out; omega)) HY50.out.bel.size ?_
                      intro v51 w51 own51 gr51 _
                      have HY51 := Lib.hid ((HY50.out.grow own51 gr51 rfl (refB2_byte _)))
                      have HK51 := Lib.hid (HY50.out.ke gr51)
                      clear own51 gr51
                      refine ⟨HK51.out, mixK_end ?_⟩
                      simp only [pickOps, nth, Act.put, List.setIfInBounds_toArray, List.set_cons_succ, List.set_cons_zero]
                      (repeat (go_big_quiet_step (fail)))
                      refine wpQuiet_nil ?_
                      go_wp2_with (fail)
                      go_roundw
                      case rel => exact ⟨j + 1, by go_num, HLJ.out, (HY51.out.more (by omega)).re (XP_next HZ.out)⟩
                      case measure => simp [intOf]; have := HLJ.out; omega
                    · go_wp2_with (fail)
                      clear hv hc
                      refine wp_region_mixK (AG w [(g4, #[.int .i64 cl, .string on, .int .i64 bm, .int .i64 bi, .int .u32 va, .slice (some ⟨bP, oP, none⟩) pl.length pc], 42), (g, #[.string nm, .slice a1 l1.length c1, .slice a2 l2.length c2, .slice (some ⟨b3, o3, none⟩) l3.length c3], 26)]) [([0, 1, 4, 5, 6, 7, 8, 9], 2), ([], 3), ([], 10), ([], 11)] [12] (by kernel_rfl) (by kernel_rfl) (fun _ _ d _ _ h => by cases d <;> exact h) ?_
                      intro wd hbd
                      have HYd := Lib.hid (HYs.out.on hbd)
                      clear hbd
                      have lc5 := fun x => HYd.out.cell (v := .slice (some ⟨bP, oP, none⟩) pl.length pc) 0 rfl 5 rfl x
                      have ls := fun x : Later (Ke (AG w [(g4, #[.int .i64 cl, .string on, .int .i64 bm, .int .i64 bi, .int .u32 va, .slice (some ⟨bP, oP, none⟩) pl.length pc], 42), (g, #[.string nm, .slice a1 l1.length c1, .slice a2 l2.length c2, .slice (some ⟨b3, o3, none⟩) l3.length c3], 26)]) wd) => loads_mid (P := Try.prog) (w := x.w) (b := bP) (o := oP + j * 3 + 1) (cs := [.int .i64 xm, .int .i64 xi]) (fun q v hv => by rw [Nat.add_assoc (oP + j * 3)]; exact HYd.out.old (p := ⟨bP, oP + j * 3 + (1 + q), none⟩) HBP.out (HCP.out j _ HZ.out (1 + q) v (by match q, hv with | 0, hv => exact hv | 1, hv => exact hv)) x) Try.underlying30 rfl (by kernel_rfl)
                      refine mixK_step ?_
                      simp only [pickOps, nth, Act.put, List.setIfInBounds_toArray, List.set_cons_succ, List.set_cons_zero]
                      (repeat (go_big_quiet_step (fail)))
                      (go_big_quiet_want; refine quiet_row2 30 (.tmp 209) rfl rfl ls ?_; go_big_quiet_on)
                      simp only [pickOps, nth, Act.put, List.setIfInBounds_toArray, List.set_cons_succ, List.set_cons_zero]
                      (repeat (go_big_quiet_step (fail)))
                      refine wpQuiet_nil ?_
                      clear lc5 ls
                      go_wp2_with (fail)
                      have HB52 := Lib.hid (bel1 wd (.cells (([1] : List Int).map (Value.int .u8)).toArray 5))
                      have HL52 := Lib.hid (At.new wd (([1] : List Int).map (Value.int .u8)).toArray 5)
                      have HY52 := Lib.hid (HYd.out.on HB52.out)
                      obtain ⟨w52, hw52⟩ : ∃ W, W = wd.alloc (.cells (([1] : List Int).map (Value.int .u8)).toArray 5) := ⟨_, rfl⟩
                      rw [← hw52] at HY52
                      rw [← hw52] at HL52
                      rw [← hw52] at HB52
                      (have hw' := hw52; simp only [List.map_cons, List.map_nil] at hw'; rw [← hw']; clear hw')
                      clear hw52
                      refine ⟨(Ke.below (AG w [(g4, #[.int .i64 cl, .string on, .int .i64 bm, .int .i64 bi, .int .u32 va, .slice (some ⟨bP, oP, none⟩) pl.length pc], 42), (g, #[.string nm, .slice a1 l1.length c1, .slice a2 l2.length c2, .slice (some ⟨b3, o3, none⟩) l3.length c3], 26)]) HB52.out), mixK_step ?_⟩
                      simp only [pickOps, nth, Act.put, List.setIfInBounds_toArray, List.set_cons_succ, List.set_cons_zero]
                      (repeat (go_big_quiet_step (fail)))
                      refine wpQuiet_nil ?_
                      refine append_at rfl (.tmp 201) (.tmp 203) et_u8 rfl w.heap.size rfl HY52.out.own rfl (rd_at8r HL52.out (byteV true) (by simp)).row (by rw [List.length_map, Nat.mul_one]; try rfl) (ints_one .u8 _) (HY52.out.room (by have := HK3.out; have := HJ1.out; omega)) (HY52.out.room' (by have := HK3.out; have := HJ1.out; omega)) HY52.out.bel.size ?_
                      intro v53 w53 own53 gr53 _
                      have HY53 := Lib.hid ((HY52.out.grow own53 gr53 rfl (byteV true)))
                      have HK53 := Lib.hid (HY52.out.ke gr53)
                      clear own53 gr53
                      refine ⟨HK53.out, mixK_step ?_⟩
                      simp only [pickOps, nth, Act.put, List.setIfInBounds_toArray, List.set_cons_succ, List.set_cons_zero]
                      (repeat (go_big_quiet_step (fail)))
                      refine wpQuiet_nil ?_
                      go_wp2_with (refine (refRef_walk xm xi _).mono ?_; rintro e w54 ⟨aw54, cw54, rfl, hr, hb⟩; have HR54 := Lib.hid hr; have HY54 := Lib.hid (HY53.out.on hb); have HK54 := Lib.hid (Ke.below (AG w [(g4, #[.int .i64 cl, .string on, .int .i64 bm, .int .i64 bi, .int .u32 va, .slice (some ⟨bP, oP, none⟩) pl.length pc], 42), (g, #[.string nm, .slice a1 l1.length c1, .slice a2 l2.length c2, .slice (some ⟨b3, o3, none⟩) l3.length c3], 26)]) hb); clear hr hb)
                      refine ⟨HK54.out, mixK_step ?_⟩
                      simp only [pickOps, nth, Act.put, List.setIfInBounds_toArray, List.set_cons_succ, List.set_cons_zero]
                      (repeat (go_big_quiet_step (fail)))
                      refine wpQuiet_nil ?_
                      refine append_at rfl (.tmp 204) (.tmp 211) et_u8 rfl w.heap.size rfl HY54.out.own rfl HR54.out.row (by rw [List.length_map, Nat.mul_one]; try rfl) (ints_one .u8 _) (HY54.out.room (by have := HK3.out; have := HJ1.out; omega)) (HY54.out.room' (by have := HK3.out; have := HJ1.out; omega)) HY54.out.bel.size ?_
                      intro v55 w55 own55 gr55 _
                      have HY55 := Lib.hid ((HY54.out.grow own55 gr55 rfl (refB2_byte _)))
                      have HK55 := Lib.hid (HY54.out.ke gr55)
                      clear own55 gr55
                      refine ⟨HK55.out, mixK_end ?_⟩
                      simp only [pickOps, nth, Act.put, List.setIfInBounds_toArray, List.set_cons_succ, List.set_cons_zero]
                      (repeat (go_big_quiet_step (fail)))
                      refine wpQuiet_nil ?_
                      go_wp2_with (fail)
                      go_roundw
                      case rel => exact ⟨j + 1, by go_num, HLJ.out, (HY55.out.more (by omega)).re (XP_next HZ.out)⟩
                      case measure => simp [intOf]; have := HLJ.out; omega
                  · have hj2 : j = pl.length := by omega
                    subst hj2
                    go_wp2_with (fail)
                    go_roundw
                    case rel => exact ⟨k + 1, by go_num, HLT.out, ((HYs.out.pop).more (by have := HPL.out; omega)).re (XC_4 HX.out H4.out)⟩
                    case measure => simp [intOf]; have := HLT.out; omega
              have d4 : (cl != 4) = true := by rw [bne_iff_ne]; exact h4
              by_cases hc1 : cl = 1
              · have d1 : (cl == 1) = true := by rw [hc1]; rfl
                have HC1' := Lib.hid hc1
                clear hc1 h4
                have q35 : True := trivial
                have q36 : True := trivial
                have q37 : True := trivial
                have q38 : True := trivial
                have q39 : True := trivial
                go_wp2_with (first | (have _f := q35; refine wpList_load_mid rfl 30 (.tmp 158) rfl g4 2 rfl [.int .i64 bm, .int .i64 bi] _ (fun q y hy => (HY43.out.is 0 rfl (2 + q) (by match q, hy with | 0, hy => exact hy | 1, hy => exact hy))) Try.underlying30 rfl (by kernel_rfl) ?_; clear _f q35) | (have _f := q36; refine (refRef_walk bm bi _).mono ?_; rintro e w56 ⟨aw56, cw56, rfl, hr, hb⟩; have HR56 := Lib.hid hr; have HY56 := Lib.hid (HY43.out.on hb); clear hr hb; clear _f q36) | (have _f := q37; at_builtin; refine append_at rfl (.tmp 157) (.tmp 160) et_u8 rfl w.heap.size rfl HY56.out.own rfl HR56.out.row (by rw [List.length_map, Nat.mul_one]; try rfl) (ints_one .u8 _) (HY56.out.room (by have := HK3.out; have := HXL.out; omega)) (HY56.out.room' (by have := HK3.out; have := HXL.out; omega)) HY56.out.bel.size ?_; intro v57 w57 own57 gr57 _; have HY57 := Lib.hid ((HY56.out.grow own57 gr57 rfl (refB2_byte _))); clear own57 gr57; have y0 := HY57.out.is (v := .int .i64 cl) 0 rfl 0 rfl; have y4 := HY57.out.is (v := .int .u32 va) 0 rfl 4 rfl; have y5 := HY57.out.is (v := .slice pa pl.length pc) 0 rfl 5 rfl; clear _f q37) | (have _f := q38; refine (refWord_walk va _ HVA.out).mono ?_; rintro e w58 ⟨aw58, cw58, rfl, hr, hb⟩; have HR58 := Lib.hid hr; have HY58 := Lib.hid (HY57.out.on hb); clear hr hb; clear _f q38) | (have _f := q39; at_builtin; refine append_at rfl (.tmp 170) (.tmp 173) et_u8 rfl w.heap.size rfl HY58.out.own rfl HR58.out.row (by rw [List.length_map, Nat.mul_one]; try rfl) (ints_one .u8 _) (HY58.out.room (by have := HK3.out; have := HXL.out; omega)) (HY58.out.room' (by have := HK3.out; have := HXL.out; omega)) HY58.out.bel.size ?_; intro v59 w59 own59 gr59 _; have HY59 := Lib.hid ((HY58.out.grow own59 gr59 rfl (wordB_byte _))); clear own59 gr59; have y0 := HY59.out.is (v := .int .i64 cl) 0 rfl 0 rfl; clear _f q39))
                go_roundw
                case rel => exact ⟨k + 1, by go_num, HLT.out, ((HY59.out.pop).more (by omega)).re (XC_v HX.out (.inl HC1'.out))⟩
                case measure => simp [intOf]; have := HLT.out; omega
              have d1 : (cl == 1) = false := by rw [beq_eq_false_iff_ne]; exact hc1
              by_cases hc3 : cl = 3
              · have d3 : (cl == 3) = true := by rw [hc3]; rfl
                have HC3' := Lib.hid hc3
                clear hc1 hc3 h4
                have q40 : True := trivial
                have q41 : True := trivial
                have q42 : True := trivial
                have q43 : True := trivial
                have q44 : True := trivial
                go_wp2_with (first | (have _f := q40; refine wpList_load_mid rfl 30 (.tmp 158) rfl g4 2 rfl [.int .i64 bm, .int .i64 bi] _ (fun q y hy => (HY43.out.is 0 rfl (2 + q) (by match q, hy with | 0, hy => exact hy | 1, hy => exact hy))) Try.underlying30 rfl (by kernel_rfl) ?_; clear _f q40) | (have _f := q41; refine (refRef_walk bm bi _).mono ?_; rintro e w60 ⟨aw60, cw60, rfl, hr, hb⟩; have HR60 := Lib.hid hr; have HY60 := Lib.hid (HY43.out.on hb); clear hr hb; clear _f q41) | (have _f := q42; at_builtin; refine append_at rfl (.tmp 157) (.tmp 160) et_u8 rfl w.heap.size rfl HY60.out.own rfl HR60.out.row (by rw [List.length_map, Nat.mul_one]; try rfl) (ints_one .u8 _) (HY60.out.room (by have := HK3.out; have := HXL.out; omega)) (HY60.out.room' (by have := HK3.out; have := HXL.out; omega)) HY60.out.bel.size ?_; intro v61 w61 own61 gr61 _; have HY61 := Lib.hid ((HY60.out.grow own61 gr61 rfl (refB2_byte _))); clear own61 gr61; have y0 := HY61.out.is (v := .int .i64 cl) 0 rfl 0 rfl; have y4 := HY61.out.is (v := .int .u32 va) 0 rfl 4 rfl; have y5 := HY61.out.is (v := .slice pa pl.length pc) 0 rfl 5 rfl; clear _f q42) | (have _f := q43; refine (refWord_walk va _ HVA.out).mono ?_; rintro e w62 ⟨aw62, cw62, rfl, hr, hb⟩; have HR62 := Lib.hid hr; have HY62 := Lib.hid (HY61.out.on hb); clear hr hb; clear _f q43) | (have _f := q44; at_builtin; refine append_at rfl (.tmp 170) (.tmp 173) et_u8 rfl w.heap.size rfl HY62.out.own rfl HR62.out.row (by rw [List.length_map, Nat.mul_one]; try rfl) (ints_one .u8 _) (HY62.out.room (by have := HK3.out; have := HXL.out; omega)) (HY62.out.room' (by have := HK3.out; have := HXL.out; omega)) HY62.out.bel.size ?_; intro v63 w63 own63 gr63 _; have HY63 := Lib.hid ((HY62.out.grow own63 gr63 rfl (wordB_byte _))); clear own63 gr63; have y0 := HY63.out.is (v := .int .i64 cl) 0 rfl 0 rfl; clear _f q44))
                go_roundw
                case rel => exact ⟨k + 1, by go_num, HLT.out, ((HY63.out.pop).more (by omega)).re (XC_v HX.out (.inr HC3'.out))⟩
                case measure => simp [intOf]; have := HLT.out; omega
              have d3 : (cl == 3) = false := by rw [beq_eq_false_iff_ne]; exact hc3
              have HCN : Hid (¬ (cl = 1 ∨ cl = 3) ∧ cl ≠ 4) := Lib.hid ⟨by omega, h4⟩
              clear hc1 hc3 h4
              have q45 : True := trivial
              have q46 : True := trivial
              have q47 : True := trivial
              go_wp2_with (first | (have _f := q45; refine wpList_load_mid rfl 30 (.tmp 158) rfl g4 2 rfl [.int .i64 bm, .int .i64 bi] _ (fun q y hy => (HY43.out.is 0 rfl (2 + q) (by match q, hy with | 0, hy => exact hy | 1, hy => exact hy))) Try.underlying30 rfl (by kernel_rfl) ?_; clear _f q45) | (have _f := q46; refine (refRef_walk bm bi _).mono ?_; rintro e w64 ⟨aw64, cw64, rfl, hr, hb⟩; have HR64 := Lib.hid hr; have HY64 := Lib.hid (HY43.out.on hb); clear hr hb; clear _f q46) | (have _f := q47; at_builtin; refine append_at rfl (.tmp 157) (.tmp 160) et_u8 rfl w.heap.size rfl HY64.out.own rfl HR64.out.row (by rw [List.length_map, Nat.mul_one]; try rfl) (ints_one .u8 _) (HY64.out.room (by have := HK3.out; have := HXL.out; omega)) (HY64.out.room' (by have := HK3.out; have := HXL.out; omega)) HY64.out.bel.size ?_; intro v65 w65 own65 gr65 _; have HY65 := Lib.hid ((HY64.out.grow own65 gr65 rfl (refB2_byte _))); clear own65 gr65; have y0 := HY65.out.is (v := .int .i64 cl) 0 rfl 0 rfl; have y4 := HY65.out.is (v := .int .u32 va) 0 rfl 4 rfl; have y5 := HY65.out.is (v := .slice pa pl.length pc) 0 rfl 5 rfl; clear _f q47))
              go_roundw
              case rel => exact ⟨k + 1, by go_num, HLT.out, ((HY65.out.pop).more (by omega)).re (XC_0 HX.out HCN.out.1 HCN.out.2)⟩
              case measure => simp [intOf]; have := HLT.out; omega
            · have hk2 : k = l3.length := by omega
              subst hk2
              go_wp2_with (fail)
              obtain ⟨a, c, rfl, hr⟩ := RdI.own HYr.out.own (fun x hx => bd_u8' (HYr.out.byte x hx))
              rw [HXA.out] at hr
              have HRR := Lib.hid hr
              have HLL : Hid ((XC l1 l2 l3 l3.length).length = R.length) := Lib.hid (by rw [HXA.out])
              clear hr
              go_ret
              rw [HLL.out]
              exact ⟨a, c, rfl, HRR.out, HYr.out.bel⟩
end Go.Proofs.Ytfnibpkojhgflaa
