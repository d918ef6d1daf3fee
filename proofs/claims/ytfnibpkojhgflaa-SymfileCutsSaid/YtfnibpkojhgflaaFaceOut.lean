/- Contract: a face's bytes (symfile.Bytes). -/
import Derived.Test.YtfnibpkojhgflaaFaceRest
import Derived.Test.YtfnibpkojhgflaaFaceOut0
import Derived.Test.YtfnibpkojhgflaaFaceMay
import Derived.Test.YtfnibpkojhgflaaKeyWalks
import Derived.Lib.SlBytesConst
import Derived.OwnWalk
namespace Go.Proofs.Ytfnibpkojhgflaa
set_option linter.unusedVariables false
set_option linter.unusedSimpArgs false
open Go.RowKit

theorem rd_lit8z (w : World) (l : List Int) (z : Nat × Nat) (h : ∀ x ∈ l, isByte x) (hl : l.length ≤ 1000) : RdI .u8 (w.alloc (.cells (l.map (Value.int .u8)).toArray 5 z)) (some ⟨w.heap.size, 0, none⟩) l.length l :=
  ⟨⟨⟨w.heap.size, 0, fun _ => ⟨rfl, by simp⟩, fun j u hj => by rw [Nat.zero_add, cell_of_row _ w.heap.size j _ 5 z (heap_alloc_new w _)]; simpa using hj⟩, fun h => (by cases h), Nat.le_refl _, by unfold maxLen; omega⟩, fun x hx => bd_u8' (h x hx)⟩
set_option maxRecDepth 100000 in
set_option maxHeartbeats 4000000 in
theorem bytes_walk (f : Fc) (w : World) (h : f.Rd w) :
    Calls Try.prog 22 #[f.val] w fun e w' => ∃ a c, e = .returned (.tuple #[.slice a (outF f.d).length c, .int .u32 (keyF f.d), .int .i64 (errF f.d)]) ∧ RdI .u8 w' a c (outF f.d) ∧ Below w.heap.size w w' := by
  have HM : Hid (∀ W, Below w.heap.size w W → Calls Try.prog 10 #[f.val] W fun e' w' => e' = .returned (.bool (mayFace f.d)) ∧ Below W.heap.size W w') := Lib.hid (fun W k => may_walk f W (h.bel k))
  have HR : Hid (mayFace f.d = true → ∀ W, Below w.heap.size w W → Calls Try.prog 27 #[f.val] W fun e w' => ∃ a c, e = .returned (.slice a (restF f.d).length c) ∧ RdI .u8 w' a c (restF f.d) ∧ Below W.heap.size W w') := Lib.hid (fun hm W k => rest_walk f W (h.bel k) (small_of hm))
  have HLN : Hid (mayFace f.d = true → (restF f.d).length ≤ 900000 ∧ f.name.size ≤ 15) := Lib.hid (fun hm => ⟨rest_len (small_of hm), (small_of hm).name⟩)
  have HD : Hid (outF f.d = (if mayFace f.d then [83, 49] ++ (nameB f.name ++ (wordB (Key.of (restF f.d)) ++ restF f.d)) else []) ∧ keyF f.d = (if mayFace f.d then Key.of (restF f.d) else 0) ∧ errF f.d = (if mayFace f.d then 0 else 2)) := Lib.hid ⟨rfl, rfl, rfl⟩
  obtain ⟨M, hM⟩ : ∃ M, M = mayFace f.d := ⟨_, rfl⟩
  obtain ⟨R, hR⟩ : ∃ R, R = restF f.d := ⟨_, rfl⟩
  obtain ⟨O, hO⟩ : ∃ O, O = outF f.d := ⟨_, rfl⟩
  obtain ⟨K, hK⟩ : ∃ K, K = keyF f.d := ⟨_, rfl⟩
  obtain ⟨E, hE⟩ : ∃ E, E = errF f.d := ⟨_, rfl⟩
  rw [← hM] at HM HR HLN HD
  rw [← hR] at HR HLN HD
  rw [← hO, ← hK, ← hE] at HD ⊢
  clear hM hR hO hK hE h
  obtain ⟨nm, ⟨a1, c1, l1⟩, ⟨a2, c2, l2⟩, ⟨a3, c3, l3⟩⟩ := f
  dsimp only at HLN HD
  replace HM : Hid (∀ W, Below w.heap.size w W → Calls Try.prog 10 #[.agg #[.string nm, .slice a1 l1.length c1, .slice a2 l2.length c2, .slice a3 l3.length c3]] W fun e' w' => e' = .returned (.bool M) ∧ Below W.heap.size W w') := HM
  replace HR : Hid (M = true → ∀ W, Below w.heap.size w W → Calls Try.prog 27 #[.agg #[.string nm, .slice a1 l1.length c1, .slice a2 l2.length c2, .slice a3 l3.length c3]] W fun e w' => ∃ a c, e = .returned (.slice a R.length c) ∧ RdI .u8 w' a c R ∧ Below W.heap.size W w') := HR
  show Calls _ _ #[.agg #[.string nm, .slice a1 l1.length c1, .slice a2 l2.length c2, .slice a3 l3.length c3]] w _
  have HA := Lib.hid (At.new w #[.string nm, .slice a1 l1.length c1, .slice a2 l2.length c2, .slice a3 l3.length c3] 26)
  have HB := Lib.hid (bel1 w (.cells #[.string nm, .slice a1 l1.length c1, .slice a2 l2.length c2, .slice a3 l3.length c3] 26))
  have f1 : True := trivial
  have f2 : True := trivial
  have f3 : True := trivial
  have f4 : True := trivial
  have f5 : True := trivial
  have f6 : True := trivial
  have f7 : True := trivial
  go_enter Try.func22, Try.ntmps22
  cases M
  · obtain ⟨rfl, rfl, rfl⟩ : O = [] ∧ K = 0 ∧ E = 2 := HD.out
    go_wp2_with (first | (have _f := f1; refine (HM.out _ HB.out).mono ?_; rintro e' w1 ⟨rfl, hb⟩; have HB1 := Lib.hid (bel_then HB.out hb); clear hb _f f1))
    go_ret3
    exact ⟨none, 0, rfl, ⟨RdC.nilSlice _, fun x hx => (by cases hx)⟩, HB1.out⟩
  · obtain ⟨hO, rfl, rfl⟩ : O = [83, 49] ++ (nameB nm ++ (wordB (Key.of R) ++ R)) ∧ K = Key.of R ∧ E = 0 := HD.out
    have HO := Lib.hid hO
    have HLR := Lib.hid (HLN.out rfl)
    have HRR := Lib.hid (HR.out rfl)
    have hkb := Key.of_bd R
    obtain ⟨K, hK⟩ : ∃ K, K = Key.of R := ⟨_, rfl⟩
    have HK := Lib.hid hK
    rw [← hK] at hkb ⊢
    clear hO hK HLN HR HD
    have kc := fun (w : World) (C : Array Value) (n c : Nat) => Lib.run_convert_bytes_const (P := Try.prog) w 46 5 C n c Try.underlying46 Try.underlying5
    go_wp2_with (first
      | (have _f := f1; refine (HM.out _ HB.out).mono ?_; rintro e' w1 ⟨rfl, hb⟩; have HB1 := Lib.hid (bel_then HB.out hb); have HA1 := Lib.hid (HA.out.bel hb); clear hb _f f1)
      | (have _f := f2; refine wpList_load_mid rfl 26 (.tmp 1) rfl w.heap.size 0 rfl [.string nm, .slice a1 l1.length c1, .slice a2 l2.length c2, .slice a3 l3.length c3] _ (fun q y hy => (HA1.out.cell (0 + q)).trans (by match q, hy with | 0, hy => exact hy | 1, hy => exact hy | 2, hy => exact hy | 3, hy => exact hy)) Try.underlying26 rfl (by kernel_rfl) ?_; clear _f f2)
      | (have _f := f3; refine (HRR.out _ HB1.out).mono ?_; rintro e' w2 ⟨ra, rc, rfl, hr, hb⟩; have HR2 := Lib.hid hr; have HB2 := Lib.hid (bel_then HB1.out hb); have y0 := ((HA1.out.bel hb).cell 0).trans (show _ = some (.string nm) from rfl); have HA2 := Lib.hid (HA1.out.bel hb); clear hr hb _f f3)
      | (have _f := f4; refine (of_any _ [R] _ _ (RdII.one 46 HR2.out)).mono ?_; rintro e' w3 ⟨rfl, hb⟩; have hb' := bel_then (bel1 w2 (.cells #[.slice ra R.length rc] 46)) hb; have HR3 := Lib.hid (HR2.out.below hb' (Nat.le_refl _)); have HB3 := Lib.hid (bel_then HB2.out hb'); have HA3 := Lib.hid (HA2.out.bel hb'); clear y0; have y0 := (HA3.out.cell 0).trans (show _ = some (.string nm) from rfl); simp only [List.flatten_cons, List.flatten_nil, List.append_nil]; rw [← HK.out]; have HL1 : Hid (RdI .u8 (w3.alloc (.cells #[.int .u8 83, .int .u8 49] 5 (2, 3))) (some ⟨w3.heap.size, 0, none⟩) 2 [83, 49]) := Lib.hid (rd_lit8z w3 [83, 49] (2, 3) (by intro x hx; simp only [List.mem_cons, List.not_mem_nil, or_false] at hx; rcases hx with rfl | rfl <;> exact ⟨by decide, by decide⟩) (show 2 ≤ 1000 by decide)); have b4 := bel1 w3 (.cells #[.int .u8 83, .int .u8 49] 5 (2, 3)); have HR4 := Lib.hid (HR3.out.below b4 (Nat.le_refl _)); have HB4 := Lib.hid (bel_then HB3.out b4); have y1 := (b4.cell (p := ⟨w.heap.size, 0, none⟩) HA3.out.lt).trans y0; clear b4 y0; clear hb hb' _f f4)
      | (have _f := f5; refine (name8_walk nm _ (by have := HLR.out.2; omega)).mono ?_; rintro e' w5 ⟨na, nc, rfl, hr, hb⟩; have HN5 := Lib.hid hr; have HR5 := Lib.hid (HR4.out.below hb (Nat.le_refl _)); have HL5 := Lib.hid (HL1.out.below hb (Nat.le_refl _)); have HB5 := Lib.hid (bel_then HB4.out hb); clear hr hb _f f5)
      | (have _f := f6; refine (put_walk K _ hkb).mono ?_; rintro e' w6 ⟨pa, pc, rfl, hr, hb⟩; have HP6 := Lib.hid hr; have HN6 := Lib.hid (HN5.out.below hb (Nat.le_refl _)); have HR6 := Lib.hid (HR5.out.below hb (Nat.le_refl _)); have HL6 := Lib.hid (HL5.out.below hb (Nat.le_refl _)); have HB6 := Lib.hid (bel_then HB5.out hb); clear hr hb _f f6))
    have h6 := rdii_lit (w := w6.alloc (.cells #[.slice (some ⟨w3.heap.size, 0, none⟩) 2 2, .slice na (nameB nm).length nc, .slice pa 4 pc, .slice ra R.length rc] 46)) (h := w6.heap.size) (t := 46) [⟨some ⟨w3.heap.size, 0, none⟩, 2, [83, 49]⟩, ⟨na, nc, nameB nm⟩, ⟨pa, pc, wordB K⟩, ⟨ra, rc, R⟩] (At.new w6 _ _) (fun s hs => by
      have b := bel1 w6 (.cells #[.slice (some ⟨w3.heap.size, 0, none⟩) 2 2, .slice na (nameB nm).length nc, .slice pa 4 pc, .slice ra R.length rc] 46)
      simp only [List.mem_cons, List.not_mem_nil, or_false] at hs
      rcases hs with rfl | rfl | rfl | rfl
      · exact HL6.out.below b (Nat.le_refl _)
      · exact HN6.out.below b (Nat.le_refl _)
      · exact HP6.out.below b (Nat.le_refl _)
      · exact HR6.out.below b (Nat.le_refl _)) (by simp)
    have HCC := Lib.hid (concat_walk (some ⟨w6.heap.size, 0, none⟩) [[83, 49], nameB nm, wordB K, R] 4 _ h6 (by have := HLR.out; simp only [List.flatten_cons, List.flatten_nil, List.length_append, List.append_nil, List.length_cons, List.length_nil, nameB_len, wordB_len]; omega))
    have HOE : Hid (O = [[83, 49], nameB nm, wordB K, R].flatten ∧ ∀ x ∈ O, isByte x) := Lib.hid (by
      have e : O = [[83, 49], nameB nm, wordB K, R].flatten := by rw [HO.out, ← HK.out]; simp
      refine ⟨e, fun x hx => ?_⟩
      rw [HO.out, ← HK.out] at hx
      simp only [List.mem_append] at hx
      rcases hx with hx | hx | hx | hx
      · simp only [List.mem_cons, List.not_mem_nil, or_false] at hx; rcases hx with rfl | rfl <;> exact ⟨by decide, by decide⟩
      · exact nameB_byte nm x hx
      · exact wordB_byte K x hx
      · exact bd_u8 (HR6.out.2 x hx))
    rw [← HOE.out.1] at HCC
    clear h6 HO HK
    go_wp2_with (first | (have _f := f7; refine HCC.out.mono ?_; rintro e' w7 ⟨v, rfl, ho, hb⟩; have HO7 := Lib.hid ho; have HB7 := Lib.hid (bel_then HB6.out (bel_then (bel1 _ _) hb)); clear ho hb _f f7))
    go_ret3
    obtain ⟨ua, uc, rfl, hur⟩ := RdI.own HO7.out (fun x hx => bd_u8' (HOE.out.2 x hx))
    exact ⟨ua, uc, rfl, hur, HB7.out⟩
end Go.Proofs.Ytfnibpkojhgflaa
