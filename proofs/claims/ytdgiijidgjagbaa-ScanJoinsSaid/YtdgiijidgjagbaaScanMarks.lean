/- The statement ScanMarks, walked. -/
import Derived.Test.YtdgiijidgjagbaaScanInv
namespace Go.Proofs.Ytdgiijidgjagbaa
set_option linter.unusedVariables false
set_option linter.unusedSimpArgs false
open Go.RowKit

theorem field0 (v p u i : Int) (t : ByteArray) (w : World) : (Instr.field 30 (.agg #[.int .i64 v, .int .i64 p, .int .i32 u, .int .i64 i, .string t]) 0).run Try.prog w = .ok (.int .i64 v) w := by kernel_rfl
theorem field1 (v p u i : Int) (t : ByteArray) (w : World) : (Instr.field 30 (.agg #[.int .i64 v, .int .i64 p, .int .i32 u, .int .i64 i, .string t]) 1).run Try.prog w = .ok (.int .i64 p) w := by kernel_rfl

theorem marked {s0 : Sc} (hi : Inv s0) {code : Int} (hc : 1 ≤ code) (pl : Int) : ∃ E P, (s0.markAt code pl).err = E ∧ (s0.markAt code pl).pos = P ∧ (s0.markAt code pl).sym = Sym.at P ∧ E ≠ 0 ∧ (s0.err = 0 → E = code ∧ P = pl) ∧ (s0.err ≠ 0 → E = s0.err ∧ P = s0.pos) := by
  by_cases h : s0.err = 0
  · rw [markAt_new h hc]
    exact ⟨code, pl, rfl, rfl, rfl, by omega, fun _ => ⟨rfl, rfl⟩, fun h' => (h' h).elim⟩
  · rw [markAt_err h]
    exact ⟨s0.err, s0.pos, rfl, rfl, hi h, h, fun h' => (h h').elim, fun _ => ⟨rfl, rfl⟩⟩

set_option maxRecDepth 20000 in
set_option maxHeartbeats 16000000 in
theorem marks_law (a : Option Addr) (c : Nat) (l : List Int) (behind code at' other : Int) (use : Bool) (w : World) (hr : RdI .u8 w a c l) (hb1 : IntKind.i64.min ≤ behind ∧ behind ≤ IntKind.i64.max) (hb2 : IntKind.i64.min ≤ code ∧ code ≤ IntKind.i64.max) (hb3 : IntKind.i64.min ≤ at' ∧ at' ≤ IntKind.i64.max) (hb4 : IntKind.i64.min ≤ other ∧ other ≤ IntKind.i64.max) :
    Calls Try.prog 4 #[.slice a l.length c, .int .i64 behind, .int .i64 code, .int .i64 at', .int .i64 other, .bool use] w fun e w' => e = .returned (.bool true) ∧ Below w.heap.size w w' := by
  have hlen := hr.len
  have HRD := Lib.hid hr
  have i0 : (l.length : Int) ≤ 9223372036854775807 := by omega
  clear hr hb1 hb2 hb3 hb4
  by_cases hin : l.length ≤ 2000 ∧ 0 ≤ behind ∧ behind ≤ 100 ∧ 1 ≤ code ∧ code ≤ 100 ∧ 1 ≤ other ∧ other ≤ 100 ∧ 0 ≤ at' ∧ at' ≤ 2000
  · obtain ⟨n1, n2, n3, n4, n5, n6, n7, n8, n9⟩ := hin
    have m1 : (l.length : Int) ≤ 2000 := by omega
    obtain ⟨β, rfl⟩ := Int.eq_ofNat_of_zero_le n2
    have HL := Lib.hid (show l.length ≤ 65535 by omega)
    obtain ⟨s0, hs0⟩ : ∃ s0, gets (newS l) β = s0 := ⟨_, rfl⟩
    have hinv : Inv s0 := by rw [← hs0]; exact gets_inv (newS_inv l) β
    have HS0 := Lib.hid hs0
    obtain ⟨⟨v0, p0, u0, i0', t0⟩, hy0⟩ : ∃ x, s0.sym = x := ⟨_, rfl⟩
    obtain ⟨tb, htb⟩ : ∃ tb : ByteArray, (⟨t0.toArray⟩ : ByteArray) = tb := ⟨_, rfl⟩
    obtain ⟨e0, he0⟩ : ∃ e0, s0.err = e0 := ⟨_, rfl⟩
    obtain ⟨q0, hq0⟩ : ∃ q0, s0.pos = q0 := ⟨_, rfl⟩
    obtain ⟨pl, hpl⟩ : ∃ pl, pl = if use then at' else p0 := ⟨_, rfl⟩
    obtain ⟨E, P, hE, hP, hY, hne, hz, hnz⟩ := marked hinv n4 pl
    obtain ⟨s1, hs1⟩ : ∃ s1, s0.markAt code pl = s1 := ⟨_, rfl⟩
    rw [hs1] at hE hP hY
    have herr1 : s1.err ≠ 0 := by rw [hE]; exact hne
    have HY0 : Hid (∀ (F : Nat → Prop) (g : Nat) (w : World), Scn F w g s0 → Calls Try.prog 13 #[.pointer (some ⟨g, 0, none⟩)] w fun e w' => e = .returned (.agg #[.int .i64 v0, .int .i64 p0, .int .i32 u0, .int .i64 i0', .string tb]) ∧ Below w.heap.size w w') := Lib.hid (fun F g w H => by have := symbol_is H _ hy0; simp only at this; rw [htb] at this; exact this)
    have HY1 : Hid (∀ (F : Nat → Prop) (g : Nat) (w : World), Scn F w g s1 → Calls Try.prog 13 #[.pointer (some ⟨g, 0, none⟩)] w fun e w' => e = .returned (.agg #[.int .i64 0, .int .i64 P, .int .i32 0, .int .i64 0, .string ⟨#[]⟩]) ∧ Below w.heap.size w w') := Lib.hid (fun F g w H => symbol_is H _ hY)
    have HE0 := Lib.hid (show s0.err = e0 ∧ s0.pos = q0 from ⟨he0, hq0⟩)
    have HE1 := Lib.hid (show s1.err = E ∧ s1.pos = P from ⟨hE, hP⟩)
    have HS1 : Hid (s0.markAt code pl = s1 ∧ (use = false → s0.mark code = s1)) := Lib.hid ⟨hs1, fun hu => by rw [← hs1, hpl, hu]; unfold Sc.mark; rw [hy0]; rfl⟩
    have HPL := Lib.hid hpl
    have HST := Lib.hid (show s1.mark other = s1 ∧ s1.markAt other 0 = s1 ∧ s1.get = s1 from ⟨markAt_err herr1 _ _, markAt_err herr1 _ _, get_err herr1⟩)
    have hEP : (e0 = 0 ∧ E = code ∧ P = pl) ∨ ((e0 == 0) = false ∧ E = e0 ∧ P = q0) := by
      by_cases h : e0 = 0
      · exact .inl ⟨h, (hz (by rw [he0, h])).1, (hz (by rw [he0, h])).2⟩
      · have := hnz (by rw [he0]; exact h); rw [he0, hq0] at this; exact .inr ⟨by simpa using h, this⟩
    have HEP := Lib.hid hEP
    have HNE := Lib.hid hne
    have hf0 := field0
    have hf1 := field1
    clear hs0 hinv hy0 htb he0 hq0 hpl hE hP hY hne hz hnz hs1 herr1 hEP n1 n2 hlen
    go_enter Try.func4, Try.ntmps4
    go_wp2_with (refine (new_walk HRD.out HL.out).mono ?_; rintro e w1 ⟨g, rfl, hs, hb⟩; have HSN := Lib.hid hs; have HBN := Lib.hid hb; clear hs hb)
    go_loopg [14] β (fun gk idx wr => ∃ j : Nat, j ≤ β ∧ β - j ≤ gk ∧ idx = .int .i64 j ∧ Scn (· < w.heap.size) wr g (gets (newS l) j) ∧ Below w.heap.size w wr)
    case atStart => exact ⟨0, Nat.zero_le _, Nat.le_refl _, rfl, HSN.out, HBN.out⟩
    case round =>
      obtain ⟨j, hj, hgk, rfl, hs, hb⟩ := hrel
      have HSJ := Lib.hid hs
      have HBJ := Lib.hid hb
      have HG := Lib.hid hgk
      have j1 : (0 : Int) ≤ j := by omega
      have HF := Lib.hid (fun (k : Nat) (hk : (· < w.heap.size) k) => Nat.lt_of_lt_of_le hk hb.size)
      by_cases hjl : j < β
      · have j3 : (j : Int) < β := by omega
        clear hs hb hgk hj
        go_wp2_with (refine (get_is HSJ.out HF.out).mono ?_; rintro e w2 ⟨rfl, h6, k6⟩; have HS2 := Lib.hid h6; have HB2 := Lib.hid (off_bel HBJ.out k6); clear h6 k6)
        go_roundg (gk - 1)
        case measure => have := HG.out; omega
        case rel => exact ⟨j + 1, hjl, by have := HG.out; omega, by go_num, HS2.out, HB2.out⟩
      · have hjb : j = β := by omega
        subst hjb
        clear hs hb hgk hj
        have HSJ' : Hid (Scn (· < w.heap.size) wr g s0) := Lib.hid (HS0.out ▸ HSJ.out)
        have f1 : True := trivial
        have f2 : True := trivial
        have f3 : True := trivial
        have f4 : True := trivial
        have f5 : True := trivial
        have f6 : True := trivial
        have f7 : True := trivial
        have f8 : True := trivial
        have f9 : True := trivial
        have f10 : True := trivial
        have f11 : True := trivial
        have f12 : True := trivial
        cases use
        · have hq : pl = p0 := HPL.out
          subst hq
          rcases HEP.out with ⟨rfl, rfl, rfl⟩ | ⟨g0, rfl, rfl⟩
          · skip
            go_wp2_with (first | (have _f := f1; refine (err_is HSJ'.out _ _ HE0.out.1 HE0.out.2).mono ?_; rintro e w2 ⟨rfl, hb⟩; have S2 := Lib.hid (HSJ'.out.bel hb); have B2 := Lib.hid (bel_then HBJ.out hb); clear hb _f f1) | (have _f := f2; refine (HY0.out _ _ _ S2.out).mono ?_; rintro e w3 ⟨rfl, hb⟩; have S3 := Lib.hid (S2.out.bel hb); have B3 := Lib.hid (bel_then B2.out hb); clear hb _f f2) | (have _f := f3; refine (mark_is S3.out _).mono ?_; rintro e w4 ⟨rfl, h6, k6⟩; have hmk := HS1.out.2 (by simp); rw [hmk] at h6; have S4 := Lib.hid h6; have B4 := Lib.hid (off_bel B3.out k6); clear h6 k6 hmk _f f3) | (have _f := f4; refine (err_is S4.out _ _ HE1.out.1 HE1.out.2).mono ?_; rintro e w5 ⟨rfl, hb⟩; have S5 := Lib.hid (S4.out.bel hb); have B5 := Lib.hid (bel_then B4.out hb); clear hb _f f4) | (have _f := f5; refine (HY1.out _ _ _ S5.out).mono ?_; rintro e w6 ⟨rfl, hb⟩; have S6 := Lib.hid (S5.out.bel hb); have B6 := Lib.hid (bel_then B5.out hb); clear hb _f f5) | (have _f := f6; refine (HY1.out _ _ _ S6.out).mono ?_; rintro e w7 ⟨rfl, hb⟩; have S7 := Lib.hid (S6.out.bel hb); have B7 := Lib.hid (bel_then B6.out hb); clear hb _f f6) | (have _f := f7; refine (mark_is S7.out other).mono ?_; rintro e w8 ⟨rfl, h6, k6⟩; have S8 := Lib.hid (show Scn (· < w.heap.size) w8 g s1 from HST.out.1 ▸ h6); have B8 := Lib.hid (off_bel B7.out k6); clear h6 k6 _f f7) | (have _f := f8; refine (markat_is S8.out other 0).mono ?_; rintro e w9 ⟨rfl, h6, k6⟩; have S9 := Lib.hid (show Scn (· < w.heap.size) w9 g s1 from HST.out.2.1 ▸ h6); have B9 := Lib.hid (off_bel B8.out k6); clear h6 k6 _f f8) | (have _f := f9; refine (get_is S9.out (fun k hk => Nat.lt_of_lt_of_le hk B9.out.size)).mono ?_; rintro e w10 ⟨rfl, h6, k6⟩; have S10 := Lib.hid (show Scn (· < w.heap.size) w10 g s1 from HST.out.2.2 ▸ h6); have B10 := Lib.hid (off_bel B9.out k6); clear h6 k6 _f f9) | (have _f := f10; refine (err_is S10.out _ _ HE1.out.1 HE1.out.2).mono ?_; rintro e w11 ⟨rfl, hb⟩; have S11 := Lib.hid (S10.out.bel hb); have B11 := Lib.hid (bel_then B10.out hb); clear hb _f f10) | (have _f := f11; refine (HY1.out _ _ _ S11.out).mono ?_; rintro e w12 ⟨rfl, hb⟩; have S12 := Lib.hid (S11.out.bel hb); have B12 := Lib.hid (bel_then B11.out hb); clear hb _f f11) | (have _f := f12; refine (known_walk _).mono ?_; rintro e w13 ⟨rfl, hb⟩; have B13 := Lib.hid (bel_then B12.out hb); clear hb _f f12))
            go_ret
            exact ⟨rfl, B13.out⟩
          · skip
            go_wp2_with (first | (have _f := f1; refine (err_is HSJ'.out _ _ HE0.out.1 HE0.out.2).mono ?_; rintro e w2 ⟨rfl, hb⟩; have S2 := Lib.hid (HSJ'.out.bel hb); have B2 := Lib.hid (bel_then HBJ.out hb); clear hb _f f1) | (have _f := f2; refine (HY0.out _ _ _ S2.out).mono ?_; rintro e w3 ⟨rfl, hb⟩; have S3 := Lib.hid (S2.out.bel hb); have B3 := Lib.hid (bel_then B2.out hb); clear hb _f f2) | (have _f := f3; refine (mark_is S3.out _).mono ?_; rintro e w4 ⟨rfl, h6, k6⟩; have hmk := HS1.out.2 (by simp); rw [hmk] at h6; have S4 := Lib.hid h6; have B4 := Lib.hid (off_bel B3.out k6); clear h6 k6 hmk _f f3) | (have _f := f4; refine (err_is S4.out _ _ HE1.out.1 HE1.out.2).mono ?_; rintro e w5 ⟨rfl, hb⟩; have S5 := Lib.hid (S4.out.bel hb); have B5 := Lib.hid (bel_then B4.out hb); clear hb _f f4) | (have _f := f5; refine (HY1.out _ _ _ S5.out).mono ?_; rintro e w6 ⟨rfl, hb⟩; have S6 := Lib.hid (S5.out.bel hb); have B6 := Lib.hid (bel_then B5.out hb); clear hb _f f5) | (have _f := f6; refine (HY1.out _ _ _ S6.out).mono ?_; rintro e w7 ⟨rfl, hb⟩; have S7 := Lib.hid (S6.out.bel hb); have B7 := Lib.hid (bel_then B6.out hb); clear hb _f f6) | (have _f := f7; refine (mark_is S7.out other).mono ?_; rintro e w8 ⟨rfl, h6, k6⟩; have S8 := Lib.hid (show Scn (· < w.heap.size) w8 g s1 from HST.out.1 ▸ h6); have B8 := Lib.hid (off_bel B7.out k6); clear h6 k6 _f f7) | (have _f := f8; refine (markat_is S8.out other 0).mono ?_; rintro e w9 ⟨rfl, h6, k6⟩; have S9 := Lib.hid (show Scn (· < w.heap.size) w9 g s1 from HST.out.2.1 ▸ h6); have B9 := Lib.hid (off_bel B8.out k6); clear h6 k6 _f f8) | (have _f := f9; refine (get_is S9.out (fun k hk => Nat.lt_of_lt_of_le hk B9.out.size)).mono ?_; rintro e w10 ⟨rfl, h6, k6⟩; have S10 := Lib.hid (show Scn (· < w.heap.size) w10 g s1 from HST.out.2.2 ▸ h6); have B10 := Lib.hid (off_bel B9.out k6); clear h6 k6 _f f9) | (have _f := f10; refine (err_is S10.out _ _ HE1.out.1 HE1.out.2).mono ?_; rintro e w11 ⟨rfl, hb⟩; have S11 := Lib.hid (S10.out.bel hb); have B11 := Lib.hid (bel_then B10.out hb); clear hb _f f10) | (have _f := f11; refine (HY1.out _ _ _ S11.out).mono ?_; rintro e w12 ⟨rfl, hb⟩; have S12 := Lib.hid (S11.out.bel hb); have B12 := Lib.hid (bel_then B11.out hb); clear hb _f f11) | (have _f := f12; refine (known_walk _).mono ?_; rintro e w13 ⟨rfl, hb⟩; have B13 := Lib.hid (bel_then B12.out hb); clear hb _f f12))
            go_ret
            exact ⟨rfl, B13.out⟩
        · have hq : pl = at' := HPL.out
          subst hq
          rcases HEP.out with ⟨rfl, rfl, rfl⟩ | ⟨g0, rfl, rfl⟩
          · skip
            go_wp2_with (first | (have _f := f1; refine (err_is HSJ'.out _ _ HE0.out.1 HE0.out.2).mono ?_; rintro e w2 ⟨rfl, hb⟩; have S2 := Lib.hid (HSJ'.out.bel hb); have B2 := Lib.hid (bel_then HBJ.out hb); clear hb _f f1) | (have _f := f2; refine (HY0.out _ _ _ S2.out).mono ?_; rintro e w3 ⟨rfl, hb⟩; have S3 := Lib.hid (S2.out.bel hb); have B3 := Lib.hid (bel_then B2.out hb); clear hb _f f2) | (have _f := f3; refine (markat_is S3.out _ _).mono ?_; rintro e w4 ⟨rfl, h6, k6⟩; have S4 := Lib.hid (show Scn (· < w.heap.size) w4 g s1 from HS1.out.1 ▸ h6); have B4 := Lib.hid (off_bel B3.out k6); clear h6 k6 _f f3) | (have _f := f4; refine (err_is S4.out _ _ HE1.out.1 HE1.out.2).mono ?_; rintro e w5 ⟨rfl, hb⟩; have S5 := Lib.hid (S4.out.bel hb); have B5 := Lib.hid (bel_then B4.out hb); clear hb _f f4) | (have _f := f5; refine (HY1.out _ _ _ S5.out).mono ?_; rintro e w6 ⟨rfl, hb⟩; have S6 := Lib.hid (S5.out.bel hb); have B6 := Lib.hid (bel_then B5.out hb); clear hb _f f5) | (have _f := f6; refine (HY1.out _ _ _ S6.out).mono ?_; rintro e w7 ⟨rfl, hb⟩; have S7 := Lib.hid (S6.out.bel hb); have B7 := Lib.hid (bel_then B6.out hb); clear hb _f f6) | (have _f := f7; refine (mark_is S7.out other).mono ?_; rintro e w8 ⟨rfl, h6, k6⟩; have S8 := Lib.hid (show Scn (· < w.heap.size) w8 g s1 from HST.out.1 ▸ h6); have B8 := Lib.hid (off_bel B7.out k6); clear h6 k6 _f f7) | (have _f := f8; refine (markat_is S8.out other 0).mono ?_; rintro e w9 ⟨rfl, h6, k6⟩; have S9 := Lib.hid (show Scn (· < w.heap.size) w9 g s1 from HST.out.2.1 ▸ h6); have B9 := Lib.hid (off_bel B8.out k6); clear h6 k6 _f f8) | (have _f := f9; refine (get_is S9.out (fun k hk => Nat.lt_of_lt_of_le hk B9.out.size)).mono ?_; rintro e w10 ⟨rfl, h6, k6⟩; have S10 := Lib.hid (show Scn (· < w.heap.size) w10 g s1 from HST.out.2.2 ▸ h6); have B10 := Lib.hid (off_bel B9.out k6); clear h6 k6 _f f9) | (have _f := f10; refine (err_is S10.out _ _ HE1.out.1 HE1.out.2).mono ?_; rintro e w11 ⟨rfl, hb⟩; have S11 := Lib.hid (S10.out.bel hb); have B11 := Lib.hid (bel_then B10.out hb); clear hb _f f10) | (have _f := f11; refine (HY1.out _ _ _ S11.out).mono ?_; rintro e w12 ⟨rfl, hb⟩; have S12 := Lib.hid (S11.out.bel hb); have B12 := Lib.hid (bel_then B11.out hb); clear hb _f f11) | (have _f := f12; refine (known_walk _).mono ?_; rintro e w13 ⟨rfl, hb⟩; have B13 := Lib.hid (bel_then B12.out hb); clear hb _f f12))
            go_ret
            exact ⟨rfl, B13.out⟩
          · skip
            go_wp2_with (first | (have _f := f1; refine (err_is HSJ'.out _ _ HE0.out.1 HE0.out.2).mono ?_; rintro e w2 ⟨rfl, hb⟩; have S2 := Lib.hid (HSJ'.out.bel hb); have B2 := Lib.hid (bel_then HBJ.out hb); clear hb _f f1) | (have _f := f2; refine (HY0.out _ _ _ S2.out).mono ?_; rintro e w3 ⟨rfl, hb⟩; have S3 := Lib.hid (S2.out.bel hb); have B3 := Lib.hid (bel_then B2.out hb); clear hb _f f2) | (have _f := f3; refine (markat_is S3.out _ _).mono ?_; rintro e w4 ⟨rfl, h6, k6⟩; have S4 := Lib.hid (show Scn (· < w.heap.size) w4 g s1 from HS1.out.1 ▸ h6); have B4 := Lib.hid (off_bel B3.out k6); clear h6 k6 _f f3) | (have _f := f4; refine (err_is S4.out _ _ HE1.out.1 HE1.out.2).mono ?_; rintro e w5 ⟨rfl, hb⟩; have S5 := Lib.hid (S4.out.bel hb); have B5 := Lib.hid (bel_then B4.out hb); clear hb _f f4) | (have _f := f5; refine (HY1.out _ _ _ S5.out).mono ?_; rintro e w6 ⟨rfl, hb⟩; have S6 := Lib.hid (S5.out.bel hb); have B6 := Lib.hid (bel_then B5.out hb); clear hb _f f5) | (have _f := f6; refine (HY1.out _ _ _ S6.out).mono ?_; rintro e w7 ⟨rfl, hb⟩; have S7 := Lib.hid (S6.out.bel hb); have B7 := Lib.hid (bel_then B6.out hb); clear hb _f f6) | (have _f := f7; refine (mark_is S7.out other).mono ?_; rintro e w8 ⟨rfl, h6, k6⟩; have S8 := Lib.hid (show Scn (· < w.heap.size) w8 g s1 from HST.out.1 ▸ h6); have B8 := Lib.hid (off_bel B7.out k6); clear h6 k6 _f f7) | (have _f := f8; refine (markat_is S8.out other 0).mono ?_; rintro e w9 ⟨rfl, h6, k6⟩; have S9 := Lib.hid (show Scn (· < w.heap.size) w9 g s1 from HST.out.2.1 ▸ h6); have B9 := Lib.hid (off_bel B8.out k6); clear h6 k6 _f f8) | (have _f := f9; refine (get_is S9.out (fun k hk => Nat.lt_of_lt_of_le hk B9.out.size)).mono ?_; rintro e w10 ⟨rfl, h6, k6⟩; have S10 := Lib.hid (show Scn (· < w.heap.size) w10 g s1 from HST.out.2.2 ▸ h6); have B10 := Lib.hid (off_bel B9.out k6); clear h6 k6 _f f9) | (have _f := f10; refine (err_is S10.out _ _ HE1.out.1 HE1.out.2).mono ?_; rintro e w11 ⟨rfl, hb⟩; have S11 := Lib.hid (S10.out.bel hb); have B11 := Lib.hid (bel_then B10.out hb); clear hb _f f10) | (have _f := f11; refine (HY1.out _ _ _ S11.out).mono ?_; rintro e w12 ⟨rfl, hb⟩; have S12 := Lib.hid (S11.out.bel hb); have B12 := Lib.hid (bel_then B11.out hb); clear hb _f f11) | (have _f := f12; refine (known_walk _).mono ?_; rintro e w13 ⟨rfl, hb⟩; have B13 := Lib.hid (bel_then B12.out hb); clear hb _f f12))
            go_ret
            exact ⟨rfl, B13.out⟩
  · have hcs : (2000 < l.length) ∨ (¬ 2000 < l.length ∧ behind < 0) ∨ (¬ 2000 < l.length ∧ ¬ behind < 0 ∧ 100 < behind) ∨ (¬ 2000 < l.length ∧ ¬ behind < 0 ∧ ¬ 100 < behind ∧ code < 1) ∨ (¬ 2000 < l.length ∧ ¬ behind < 0 ∧ ¬ 100 < behind ∧ ¬ code < 1 ∧ 100 < code) ∨ (¬ 2000 < l.length ∧ ¬ behind < 0 ∧ ¬ 100 < behind ∧ ¬ code < 1 ∧ ¬ 100 < code ∧ other < 1) ∨ (¬ 2000 < l.length ∧ ¬ behind < 0 ∧ ¬ 100 < behind ∧ ¬ code < 1 ∧ ¬ 100 < code ∧ ¬ other < 1 ∧ 100 < other) ∨ (¬ 2000 < l.length ∧ ¬ behind < 0 ∧ ¬ 100 < behind ∧ ¬ code < 1 ∧ ¬ 100 < code ∧ ¬ other < 1 ∧ ¬ 100 < other ∧ at' < 0) ∨ (¬ 2000 < l.length ∧ ¬ behind < 0 ∧ ¬ 100 < behind ∧ ¬ code < 1 ∧ ¬ 100 < code ∧ ¬ other < 1 ∧ ¬ 100 < other ∧ ¬ at' < 0 ∧ 2000 < at') := by omega
    clear hin hlen
    rcases hcs with h1 | ⟨h1, h2⟩ | ⟨h1, h2, h3⟩ | ⟨h1, h2, h3, h4⟩ | ⟨h1, h2, h3, h4, h5⟩ | ⟨h1, h2, h3, h4, h5, h6⟩ | ⟨h1, h2, h3, h4, h5, h6, h7⟩ | ⟨h1, h2, h3, h4, h5, h6, h7, h8⟩ | ⟨h1, h2, h3, h4, h5, h6, h7, h8, h9⟩
    all_goals
      go_enter Try.func4, Try.ntmps4
      go_wp2_with (refine (known_walk _).mono ?_; rintro e w13 ⟨rfl, hb⟩; have B13 := Lib.hid hb; clear hb)
      go_ret
      exact ⟨rfl, B13.out⟩

end Go.Proofs.Ytdgiijidgjagbaa
