/- Contract: the reference's Bytes of a face within bounds. Printed by bin/gen_symrsame.py. -/
import Derived.Test.YtfnibpkojhgflaaFaceRRest
import Derived.Test.YtfnibpkojhgflaaFaceRKey
namespace Go.Proofs.Ytfnibpkojhgflaa
set_option linter.unusedVariables false
set_option linter.unusedSimpArgs false
open Go.RowKit

theorem ac_lit (w : World) (bs : List Row) (hb : ∀ e ∈ bs, At w e.1 e.2.1 e.2.2) (ht : ∀ e ∈ bs, 5 ≠ e.2.2) (l : List Int) (h1 : l.length ≤ 1000) (h2 : ∀ x ∈ l, isByte x) : Ac w (w.alloc (.cells (l.map (Value.int .u8)).toArray 5)) bs l.length (.slice (some ⟨w.heap.size, 0, none⟩) l.length l.length) l :=
  ⟨fun e he => (hb e he).old _, ht, own_lit8 w l h1 (Nat.le_refl _), Nat.le_refl _, h2, bel1 w _⟩
theorem rdi_byte8 {w : World} {a : Option Addr} {c : Nat} {l : List Int} (h : RdI .u8 w a c l) : ∀ x ∈ l, isByte x := fun x hx => bd_u8 (h.bd x hx)
theorem s1_byte : ∀ x ∈ ([83, 49] : List Int), isByte x := fun x hx => by simp only [List.mem_cons, List.not_mem_nil, or_false] at hx; rcases hx with rfl | rfl <;> exact ⟨by omega, by omega⟩

set_option maxRecDepth 100000 in
set_option maxHeartbeats 4000000 in
theorem rbytes_walk (f : Fc) (w : World) (h : f.Rd w) (hsm : SmallF f) :
    Calls Try.prog 19 #[f.val] w fun e w' => ∃ a c, e = .returned (.tuple #[.slice a (bytesF f.d).length c, .int .u32 (Key.of (restF f.d))]) ∧ RdI .u8 w' a c (bytesF f.d) ∧ Below w.heap.size w w' := by
  have HR : Hid (∀ W, Below w.heap.size w W → Calls Try.prog 20 #[f.val] W fun e w' => ∃ a c, e = .returned (.slice a (restF f.d).length c) ∧ RdI .u8 w' a c (restF f.d) ∧ Below W.heap.size W w') := Lib.hid (fun W k => rrest_walk f W (h.bel k) hsm)
  have HLR : Hid ((restF f.d).length ≤ 900000) := Lib.hid (rest_len hsm)
  have HNL : Hid (f.name.size ≤ 15) := Lib.hid hsm.name
  have HD : Hid (bytesF f.d = [83, 49] ++ (nameB f.name ++ (wordB (Key.of (restF f.d)) ++ restF f.d))) := Lib.hid rfl
  obtain ⟨R, hR⟩ : ∃ R, R = restF f.d := ⟨_, rfl⟩
  obtain ⟨O, hO⟩ : ∃ O, O = bytesF f.d := ⟨_, rfl⟩
  rw [← hR] at HR HLR HD ⊢
  rw [← hO] at HD ⊢
  clear hR hO h hsm
  have hkb := Key.of_bd R
  obtain ⟨K, hK⟩ : ∃ K, K = Key.of R := ⟨_, rfl⟩
  have HK := Lib.hid hK
  have HKB : Hid (0 ≤ K ∧ K < 4294967296) := Lib.hid (by rw [hK]; exact hkb)
  rw [← hK] at HD ⊢
  clear hK hkb
  obtain ⟨nm, ⟨a1, c1, l1⟩, ⟨a2, c2, l2⟩, ⟨a3, c3, l3⟩⟩ := f
  dsimp only at HNL HD
  have HN6 : Hid (nm.size ≤ 1000000) := Lib.hid (by have := HNL.out; omega)
  have HXL : Hid ((nameB nm).length ≤ 16) := Lib.hid (by rw [nameB_len]; have := HNL.out; omega)
  replace HR : Hid (∀ W, Below w.heap.size w W → Calls Try.prog 20 #[.agg #[.string nm, .slice a1 l1.length c1, .slice a2 l2.length c2, .slice a3 l3.length c3]] W fun e w' => ∃ a c, e = .returned (.slice a R.length c) ∧ RdI .u8 w' a c R ∧ Below W.heap.size W w') := HR
  show Calls _ _ #[.agg #[.string nm, .slice a1 l1.length c1, .slice a2 l2.length c2, .slice a3 l3.length c3]] w _
  have HA0 := Lib.hid (At.new w #[.string nm, .slice a1 l1.length c1, .slice a2 l2.length c2, .slice a3 l3.length c3] 26)
  have HB0 := Lib.hid (bel1 w (.cells #[.string nm, .slice a1 l1.length c1, .slice a2 l2.length c2, .slice a3 l3.length c3] 26))
  go_enter Try.func19, Try.ntmps19
  have fl1 : True := trivial
  have fl2 : True := trivial
  have fl3 : True := trivial
  have fl4 : True := trivial
  have fl5 : True := trivial
  have fl6 : True := trivial
  have fl7 : True := trivial
  have fl8 : True := trivial
  go_wp2_with (first | (have _f := fl1; refine load_sep (cs := #[.string nm, .slice a1 l1.length c1, .slice a2 l2.length c2, .slice a3 l3.length c3]) rfl 26 (.tmp 1) rfl (Sep.one HA0.out) 0 rfl rfl Try.underlying26 rfl (by kernel_rfl) ?_; clear _f fl1) | (have _f := fl2; refine (HR.out _ HB0.out).mono ?_; rintro e w1 ⟨ra, rc, rfl, hr, hb⟩; have HB1 := Lib.hid (bel_then HB0.out hb); have HGA1 := Lib.hid (HA0.out.bel hb); have HRR := Lib.hid hr; clear hr; clear hb; clear _f fl2) | (have _f := fl3; refine (fkey_walk ra R rc _ HRR.out).mono ?_; rw [← HK.out]; rintro e w' ⟨rfl, rfl⟩; have HY := Lib.hid (ac_lit w1 [(w.heap.size, #[.string nm, .slice a1 l1.length c1, .slice a2 l2.length c2, .slice a3 l3.length c3], 26)] (fun e he => by obtain rfl := List.mem_singleton.1 he; exact HGA1.out) (fun e he => by obtain rfl := List.mem_singleton.1 he; exact (by decide : (5 : TypeId) ≠ 26)) [83, 49] (by decide) s1_byte); have y0 : (w1.alloc (.cells #[.int .u8 83, .int .u8 49] 5)).cell? ⟨w.heap.size, 0, none⟩ = some (.string nm) := HY.out.is (v := .string nm) 0 rfl 0 rfl; clear _f fl3) | (have _f := fl4; refine (refName_walk nm _ HN6.out).mono ?_; rintro e w21 ⟨aw21, cw21, rfl, hr, hb⟩; have HR21 := Lib.hid hr; have HY21 := Lib.hid (HY.out.on hb); clear hr hb; clear _f fl4) | (have _f := fl5; at_builtin; refine append_at rfl (.tmp 11) (.tmp 14) et_u8 rfl w1.heap.size rfl HY21.out.own rfl HR21.out.row (by rw [List.length_map, Nat.mul_one]; try rfl) (ints_one .u8 _) (HY21.out.room (by have := HXL.out; simp only [List.length_cons, List.length_nil]; omega)) (HY21.out.room' (by have := HXL.out; simp only [List.length_cons, List.length_nil]; omega)) HY21.out.bel.size ?_; intro v22 w22 own22 gr22 _; have HY22 := Lib.hid ((HY21.out.grow own22 gr22 rfl (nameB_byte nm)).more (show [83, 49].length + (nameB nm).length ≤ 18 by have := HXL.out; simp only [List.length_cons, List.length_nil]; omega)); clear own22 gr22; clear _f fl5) | (have _f := fl6; refine (refWord_walk K _ HKB.out).mono ?_; rintro e w23 ⟨aw23, cw23, rfl, hr, hb⟩; have HR23 := Lib.hid hr; have HY23 := Lib.hid (HY22.out.on hb); clear hr hb; clear _f fl6) | (have _f := fl7; at_builtin; refine append_at rfl (.tmp 16) (.tmp 18) et_u8 rfl w1.heap.size rfl HY23.out.own rfl HR23.out.row (by rw [List.length_map, Nat.mul_one]; try rfl) (ints_one .u8 _) (HY23.out.room (by decide)) (HY23.out.room' (by decide)) HY23.out.bel.size ?_; intro v24 w24 own24 gr24 _; have HY24 := Lib.hid ((HY23.out.grow own24 gr24 rfl (wordB_byte _))); clear own24 gr24; clear _f fl7) | (have _f := fl8; at_builtin; refine append_at rfl (.tmp 19) (.tmp 20) et_u8 rfl w1.heap.size rfl HY24.out.own rfl (HRR.out.below HY24.out.bel (Nat.le_refl _)).row (by rw [List.length_map, Nat.mul_one]; try rfl) (ints_one .u8 _) (HY24.out.room (by have := HLR.out; omega)) (HY24.out.room' (by have := HLR.out; omega)) HY24.out.bel.size ?_; intro v25 w25 own25 gr25 _; have HY25 := Lib.hid ((HY24.out.grow own25 gr25 rfl (rdi_byte8 HRR.out))); clear own25 gr25; clear _f fl8))
  obtain ⟨a, c, rfl, hr⟩ := RdI.own HY25.out.own (fun x hx => bd_u8' (HY25.out.byte x hx))
  have hO : [83, 49] ++ nameB nm ++ wordB K ++ R = O := by rw [HD.out]; simp only [List.append_assoc]
  rw [hO] at hr
  have HRO := Lib.hid hr
  have HLL : Hid (([83, 49] ++ nameB nm ++ wordB K ++ R).length = O.length) := Lib.hid (by rw [hO])
  clear hr hO
  go_ret2
  rw [HLL.out]
  exact ⟨a, c, rfl, HRO.out, bel_then HB1.out HY25.out.bel⟩
end Go.Proofs.Ytfnibpkojhgflaa
