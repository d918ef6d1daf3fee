/- Contracts: the reader's methods count (with word and with small), name. Printed by gen_objrdr3.py. -/
import Derived.Test.YteagpjcflcahoaaObjRdr2
import Derived.Test.YteagpjcflcahoaaObjCodec
namespace Go.Proofs.Yteagpjcflcahoaa
set_option linter.unusedVariables false
set_option linter.unusedSimpArgs false
open Go.RowKit
variable {w0 wr wz : World} {g : Nat} {s : St}

set_option maxHeartbeats 2000000 in
theorem count_word (h : Rdr w0 wr g s) (most : Int) (h0 : 0 ≤ most) (h1 : most ≤ 1000000) :
    Calls Try.prog 28 #[.pointer (some ⟨g, 0, none⟩), .func (.func 27) #[.pointer (some ⟨g, 0, none⟩)] #[], .int .i64 most] wr fun e w' => e = .returned (.int .i64 (rMost most s).1) ∧ Rdr w0 w' g (rMost most s).2 ∧ Ke (· = g) wr w' := by
  have HW := Lib.hid (word_walk h)
  have hb := rWord_bd h
  have hr : rMost most s = rCount most (rWord s) := rfl
  unfold rCount at hr
  have HLO := Lib.hid h.low
  have HBE := Lib.hid h.bel
  obtain ⟨x, hx⟩ : ∃ x, x = (rWord s).1 := ⟨_, rfl⟩
  rw [← hx] at HW hb hr
  have HXX := Lib.hid hx.symm
  clear h hx
  obtain ⟨hb1, hb2⟩ := hb
  have HP : Hid (rWord s = rWord s) := Lib.hid rfl
  by_cases hm : most < x
  · rw [if_pos hm] at hr
    have HR := Lib.hid hr
    clear hr HP
    have f1 : True := trivial
    have f2 : True := trivial
    have f3 : True := trivial
    go_enter Try.func28, Try.ntmps28
    go_wp2_with (first | (have _f := f1; refine HW.out.mono ?_; rintro e w' ⟨rfl, r1, k1⟩; obtain ⟨B, bad, ha, _⟩ := r1.box; have HS1 := Lib.hid (Sep.one ha); have HK := Lib.hid k1; have HB1 := Lib.hid r1.bel; clear r1 k1 ha _f f1 HW) | (have _f := f2; refine store1_sep rfl 24 (.tmp 17) _ rfl HS1.out 0 (v := .slice none 0 0) rfl rfl rfl rfl (by kernel_rfl) rfl ?_; intro w2 S2 k2 _; have HS2 := Lib.hid S2; have HK2 := Lib.hid k2; clear S2 k2 _f f2) | (have _f := f3; refine store1_sep rfl 4 (.tmp 19) _ rfl HS2.out 0 (v := .bool true) rfl rfl rfl rfl (by kernel_rfl) rfl ?_; intro w3 S3 k3 _; have HS3 := Lib.hid S3; have HK3 := Lib.hid (HK2.out.trans k3); clear S3 k3 _f f3))
    go_ret
    rw [HR.out]
    exact ⟨rfl, Rdr.mk' HLO.out HB1.out HK3.out (HS3.out.at 0 rfl) ⟨rfl, rfl⟩, HK.out.trans HK3.out⟩
  · rw [if_neg hm] at hr
    have HR := Lib.hid hr
    clear hr HP
    have f1 : True := trivial
    have HX : Hid ((rWord s).1 = x → (rMost most s).1 = x ∧ (rMost most s).2 = (rWord s).2) := Lib.hid (fun h => by rw [HR.out]; exact ⟨h, rfl⟩)
    clear HR
    go_enter Try.func28, Try.ntmps28
    go_wp2_with (first | (have _f := f1; refine HW.out.mono ?_; rintro e w' ⟨rfl, r1, k1⟩; have HR := Lib.hid r1; have HK := Lib.hid k1; clear r1 k1 _f f1 HW))
    go_ret
    obtain ⟨e1, e2⟩ := HX.out HXX.out
    rw [e1, e2]
    exact ⟨rfl, HR.out, HK.out⟩

set_option maxHeartbeats 2000000 in
theorem count_small (h : Rdr w0 wr g s) (most : Int) (h0 : 0 ≤ most) (h1 : most ≤ 1000000) :
    Calls Try.prog 28 #[.pointer (some ⟨g, 0, none⟩), .func (.func 29) #[.pointer (some ⟨g, 0, none⟩)] #[], .int .i64 most] wr fun e w' => e = .returned (.int .i64 (rSmall most s).1) ∧ Rdr w0 w' g (rSmall most s).2 ∧ Ke (· = g) wr w' := by
  have HW := Lib.hid (small_walk h)
  have hb := rByte_bd h
  have hr : rSmall most s = rCount most (rByte s) := rfl
  unfold rCount at hr
  have HLO := Lib.hid h.low
  have HBE := Lib.hid h.bel
  obtain ⟨x, hx⟩ : ∃ x, x = (rByte s).1 := ⟨_, rfl⟩
  rw [← hx] at HW hb hr
  have HXX := Lib.hid hx.symm
  clear h hx
  obtain ⟨hb1, hb2⟩ := hb
  have HP : Hid (rByte s = rByte s) := Lib.hid rfl
  by_cases hm : most < x
  · rw [if_pos hm] at hr
    have HR := Lib.hid hr
    clear hr HP
    have f1 : True := trivial
    have f2 : True := trivial
    have f3 : True := trivial
    go_enter Try.func28, Try.ntmps28
    go_wp2_with (first | (have _f := f1; refine HW.out.mono ?_; rintro e w' ⟨rfl, r1, k1⟩; obtain ⟨B, bad, ha, _⟩ := r1.box; have HS1 := Lib.hid (Sep.one ha); have HK := Lib.hid k1; have HB1 := Lib.hid r1.bel; clear r1 k1 ha _f f1 HW) | (have _f := f2; refine store1_sep rfl 24 (.tmp 17) _ rfl HS1.out 0 (v := .slice none 0 0) rfl rfl rfl rfl (by kernel_rfl) rfl ?_; intro w2 S2 k2 _; have HS2 := Lib.hid S2; have HK2 := Lib.hid k2; clear S2 k2 _f f2) | (have _f := f3; refine store1_sep rfl 4 (.tmp 19) _ rfl HS2.out 0 (v := .bool true) rfl rfl rfl rfl (by kernel_rfl) rfl ?_; intro w3 S3 k3 _; have HS3 := Lib.hid S3; have HK3 := Lib.hid (HK2.out.trans k3); clear S3 k3 _f f3))
    go_ret
    rw [HR.out]
    exact ⟨rfl, Rdr.mk' HLO.out HB1.out HK3.out (HS3.out.at 0 rfl) ⟨rfl, rfl⟩, HK.out.trans HK3.out⟩
  · rw [if_neg hm] at hr
    have HR := Lib.hid hr
    clear hr HP
    have f1 : True := trivial
    have HX : Hid ((rByte s).1 = x → (rSmall most s).1 = x ∧ (rSmall most s).2 = (rByte s).2) := Lib.hid (fun h => by rw [HR.out]; exact ⟨h, rfl⟩)
    clear HR
    go_enter Try.func28, Try.ntmps28
    go_wp2_with (first | (have _f := f1; refine HW.out.mono ?_; rintro e w' ⟨rfl, r1, k1⟩; have HR := Lib.hid r1; have HK := Lib.hid k1; clear r1 k1 _f f1 HW))
    go_ret
    obtain ⟨e1, e2⟩ := HX.out HXX.out
    rw [e1, e2]
    exact ⟨rfl, HR.out, HK.out⟩

theorem rSmall_bd (h : Rdr w0 wr g s) : 0 ≤ (rSmall 15 s).1 ∧ (rSmall 15 s).1 ≤ 15 := by
  have hb := rByte_bd h
  show 0 ≤ (rCount 15 (rByte s)).1 ∧ (rCount 15 (rByte s)).1 ≤ 15
  unfold rCount
  split
  · exact ⟨Int.le_refl _, by show (0 : Int) ≤ 15; decide⟩
  · exact ⟨hb.1, by omega⟩

set_option maxHeartbeats 2000000 in
theorem name_walk (h : Rdr w0 wr g s) :
    Calls Try.prog 26 #[.pointer (some ⟨g, 0, none⟩)] wr fun e w' => e = .returned (.string (rName 15 s).1) ∧ Rdr w0 w' g (rName 15 s).2 ∧ Ke (· = g) wr w' := by
  have HC := Lib.hid (count_small h 15 (by decide) (by decide))
  have HBD := Lib.hid (rSmall_bd h)
  obtain ⟨n, hn⟩ := Int.eq_ofNat_of_zero_le (rSmall_bd h).1
  have HSO : Hid (∀ w1, Rdr w0 w1 g (rSmall 15 s).2 → Calls Try.prog 25 #[.pointer (some ⟨g, 0, none⟩), .int .i64 n] w1 _) := Lib.hid (fun w1 r => some_walk r n (by have := HBD.out; omega))
  have HN : Hid (rName 15 s = (strL (rSome n (rSmall 15 s).2).1, (rSome n (rSmall 15 s).2).2)) := Lib.hid (by
    show (strL (rSome (rSmall 15 s).1.toNat (rSmall 15 s).2).1, (rSome (rSmall 15 s).1.toNat (rSmall 15 s).2).2) = _
    rw [hn, Int.toNat_natCast])
  rw [hn] at HC
  clear h hn HBD
  have f1 : True := trivial
  have f2 : True := trivial
  have f3 : True := trivial
  go_enter Try.func26, Try.ntmps26
  go_wp2_with (first | (have _f := f1; refine HC.out.mono ?_; rintro e w1 ⟨rfl, r1, k1⟩; have HR1 := Lib.hid r1; have HK1 := Lib.hid k1; clear r1 k1 _f f1 HC) | (have _f := f2; refine (HSO.out _ HR1.out).mono ?_; rintro e w2 ⟨a, c, rfl, d1, d2, d3, r2, k2⟩; have HR2 := Lib.hid r2; have HK2 := Lib.hid (HK1.out.trans k2); have HD := Lib.hid (d1.below r2.bel (Nat.le_refl _)); have cv := run_str_of (P := Try.prog) (dst := 9) HD.out Try.underlying24 Try.underlying5 Try.underlying9; clear d1 d2 d3 r2 k2 _f f2 HSO))
  go_ret
  rw [HN.out]
  exact ⟨rfl, HR2.out, HK2.out⟩
end Go.Proofs.Yteagpjcflcahoaa
