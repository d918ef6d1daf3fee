/- Contract: object.Of. Printed by bin/gen_objof.py. -/
import Derived.Test.YteagpjcflcahoaaObjOf1
import Derived.Test.YteagpjcflcahoaaTailK
import Derived.Test.YteagpjcflcahoaaAnd
namespace Go.Proofs.Yteagpjcflcahoaa
set_option linter.unusedVariables false
set_option linter.unusedSimpArgs false
open Go.RowKit

/-- what a field that is read whole gives. -/
def FinW (wr : World) (g go gr : Nat) (F : World → Prop) : Prop := ∀ wz, Ke (fun i => i = g ∨ i = go ∨ i = gr) wr wz → F wz
theorem FinW.on {wr wz : World} {g go gr : Nat} {F : World → Prop} (h : FinW wr g go gr F) (k : Ke (fun i => i = g ∨ i = go ∨ i = gr) wr wz) : FinW wz g go gr F := fun wy ky => h wy (k.trans ky)
theorem FinW.and {wr : World} {g go gr : Nat} {F F' : World → Prop} (h : FinW wr g go gr F) (h' : FinW wr g go gr F') : FinW wr g go gr (fun w => F w ∧ F' w) := fun wy ky => ⟨h wy ky, h' wy ky⟩

theorem bel_then2 {B : Nat} {w w1 w2 : World} {gr : Nat} (h : Below w.heap.size w w1) (k : Ke (· = gr) w1 w2) (hg : B ≤ gr) (hB : B ≤ w.heap.size) : Below B w w2 :=
  (h.mono hB).trans (bel_ke k (fun i e => by subst e; exact hg) (Nat.le_trans hB h.size))

set_option maxRecDepth 100000 in
set_option maxHeartbeats 16000000 in
theorem of_good (a : Option Addr) (c : Nat) (l : List Int) (w : World) (h : RdI .u8 w a c l) (hl : l.length ≤ 1000000) (ha : a = none ∨ ∃ b o, a = some ⟨b, o, none⟩) {q : List Int × St} {O : OD} {s14 : St}
    (e1 : rSome 2 (some l) = q) (e2 : strOf q.1 = ⟨#[79, 49]⟩) (e3 : rBody q.2 = (O, s14)) :
    Calls Try.prog 14 #[.slice a l.length c] w fun e w' => Below w.heap.size w w' ∧ ((s14 = some [] ∧ mayObj O = true ∧ ∃ x : Obj, x.d = O ∧ x.Rd w' ∧ e = .returned (.tuple #[x.val, .int .i64 0])) ∨ (¬ (s14 = some [] ∧ mayObj O = true) ∧ e = .returned (.tuple #[.agg #[Value.string ⟨#[]⟩, Value.int .u32 0, .slice none 0 0, .int .i64 0, .slice none 0 0, .slice none 0 0, .slice none 0 0, .slice none 0 0], .int .i64 4]))) := by
  obtain ⟨l0, s1⟩ := q
  dsimp only at e2 e3
  obtain ⟨nm, s2, E1⟩ : ∃ x s, rName 15 s1 = (x, s) := ⟨_, _, rfl⟩
  obtain ⟨ky, s3, E2⟩ : ∃ x s, rWord s2 = (x, s) := ⟨_, _, rfl⟩
  obtain ⟨n1, s4, E3⟩ : ∃ x s, rSmall 12 s3 = (x, s) := ⟨_, _, rfl⟩
  obtain ⟨l2, s5, E4⟩ : ∃ x s, rLoop rImp n1.toNat s4 = (x, s) := ⟨_, _, rfl⟩
  obtain ⟨vs, s6, E5⟩ : ∃ x s, rMost 262144 s5 = (x, s) := ⟨_, _, rfl⟩
  obtain ⟨n4, s7, E6⟩ : ∃ x s, rMost 8192 s6 = (x, s) := ⟨_, _, rfl⟩
  obtain ⟨l4, s8, E7⟩ : ∃ x s, rSome n4.toNat s7 = (x, s) := ⟨_, _, rfl⟩
  obtain ⟨n5, s9, E8⟩ : ∃ x s, rMost 16384 s8 = (x, s) := ⟨_, _, rfl⟩
  obtain ⟨l5, s10, E9⟩ : ∃ x s, rLoop rWord n5.toNat s9 = (x, s) := ⟨_, _, rfl⟩
  obtain ⟨n6, s11, E10⟩ : ∃ x s, rByte s10 = (x, s) := ⟨_, _, rfl⟩
  obtain ⟨l6, s12, E11⟩ : ∃ x s, rLoop (rMost 16384) n6.toNat s11 = (x, s) := ⟨_, _, rfl⟩
  obtain ⟨n7, s13, E12⟩ : ∃ x s, rMost 8192 s12 = (x, s) := ⟨_, _, rfl⟩
  obtain ⟨l7, s14', E13⟩ : ∃ x s, rLoop rFix n7.toNat s13 = (x, s) := ⟨_, _, rfl⟩
  have e4 : rBody s1 = (⟨nm, ky, l2, vs, l4, l5, l6, l7⟩, s14') := by
    have q3 : rImps s3 = (l2, s5) := by unfold rImps; rw [E3, E4]
    have q5 : rText s6 = (l4, s8) := by unfold rText; rw [E6, E7]
    have q6 : rCode s8 = (l5, s10) := by unfold rCode; rw [E8, E9]
    have q7 : rEnts s10 = (l6, s12) := by unfold rEnts; rw [E10, E11]
    have q8 : rFixs s12 = (l7, s14') := by unfold rFixs; rw [E12, E13]
    unfold rBody rAll
    simp only [rPair, E1, E2, q3, E5, q5, q6, q7, q8]
    rfl
  rw [e4] at e3
  simp only [Prod.mk.injEq] at e3
  obtain ⟨rfl, rfl⟩ := e3
  clear e4
  have HE1 := Lib.hid E1
  have HE2 := Lib.hid E2
  have HE3 := Lib.hid E3
  have HE4 := Lib.hid E4
  have HE5 := Lib.hid E5
  have HE6 := Lib.hid E6
  have HE7 := Lib.hid E7
  have HE8 := Lib.hid E8
  have HE9 := Lib.hid E9
  have HE10 := Lib.hid E10
  have HE11 := Lib.hid E11
  have HE12 := Lib.hid E12
  have HE13 := Lib.hid E13
  have HE0 := Lib.hid e1
  have HQ0 := Lib.hid e2
  clear e1 e2 E1 E2 E3 E4 E5 E6 E7 E8 E9 E10 E11 E12 E13
  have HA := Lib.hid h
  have HL := Lib.hid hl
  have HAN := Lib.hid ha
  clear h hl ha
  have HZ : Hid (At (w.alloc (.cells #[Value.string ⟨#[]⟩, Value.int .u32 0, .slice none 0 0, .int .i64 0, .slice none 0 0, .slice none 0 0, .slice none 0 0, .slice none 0 0] 29)) w.heap.size #[Value.string ⟨#[]⟩, Value.int .u32 0, .slice none 0 0, .int .i64 0, .slice none 0 0, .slice none 0 0, .slice none 0 0, .slice none 0 0] 29) := Lib.hid (At.new w _ _)
  have f0 : True := trivial
  have f1 : True := trivial
  go_enter Try.func14, Try.ntmps14
  go_wp2_with (first | (have _f := f0; refine (clone_walk a c l _ (HA.out.below (bel1 w _) (Nat.le_refl _)) (by have := HL.out; omega) HAN.out).mono ?_; rintro e w1 ⟨a1, c1, rfl, hr, hn, hb⟩; have HC := Lib.hid hr; have HCN := Lib.hid hn; have HZ1 := Lib.hid (HZ.out.bel hb); have HB1 := Lib.hid (bel_then (bel1 w _) hb); have HB1' := Lib.hid hb; clear hr hn hb _f f0) | (have _f := f1; refine (some_as (Rdr.mk (g := w1.heap.size) (Nat.le_refl _) (bel1 w1 _) ⟨_, _, At.new w1 #[.slice a1 l.length c1, .bool false] 58, rfl, a1, c1, rfl, HC.out, HCN.out⟩ : Rdr w1 _ w1.heap.size (some l)) 2 (by decide) HE0.out).mono ?_; rintro e w2 ⟨a2, c2, rfl, hr, r, k⟩; have HR2 := Lib.hid r; have hq := run_str_of (P := Try.prog) (dst := 9) (hr.below r.bel (Nat.le_refl _)) Try.underlying24 Try.underlying5 Try.underlying9; rw [HQ0.out] at hq; have HZ2 := Lib.hid ((HZ1.out.bel (bel1 w1 _)).ke k (fun e => absurd HZ1.out.lt (by omega))); have HG2 := Lib.hid r.box; clear hr r k _f f1))
  obtain ⟨go, hgo⟩ : ∃ go, go = w2.heap.size := ⟨_, rfl⟩
  obtain ⟨gr, hgr⟩ : ∃ gr, gr = w.heap.size := ⟨_, rfl⟩
  obtain ⟨g, hg⟩ : ∃ g, g = w1.heap.size := ⟨_, rfl⟩
  have HO0 : Hid (OA (w2.alloc (.cells #[Value.string ⟨#[]⟩, Value.int .u32 0, .slice none 0 0, .int .i64 0, .slice none 0 0, .slice none 0 0, .slice none 0 0, .slice none 0 0] 29)) w1 gr #[Value.string ⟨#[]⟩, Value.int .u32 0, .slice none 0 0, .int .i64 0, .slice none 0 0, .slice none 0 0, .slice none 0 0, .slice none 0 0] (w2.alloc (.cells #[Value.string ⟨#[]⟩, Value.int .u32 0, .slice none 0 0, .int .i64 0, .slice none 0 0, .slice none 0 0, .slice none 0 0, .slice none 0 0] 29)) g go s1 #[Value.string ⟨#[]⟩, Value.int .u32 0, .slice none 0 0, .int .i64 0, .slice none 0 0, .slice none 0 0, .slice none 0 0, .slice none 0 0]) := by
    refine Lib.hid ⟨by rw [hg]; exact HR2.out.on (bel1 w2 _), by rw [hgo]; exact At.new w2 _ _, by rw [hgr]; exact HZ2.out.bel (bel1 w2 _), by rw [hgo]; exact HR2.out.bel.size, by rw [hgr]; exact HZ1.out.lt, ?_, Ke.refl _ _⟩
    obtain ⟨B, bad, hB, _⟩ := HG2.out
    rw [hg, hgo]
    exact Nat.ne_of_lt hB.lt
  have HF : Hid (FinW (w2.alloc (.cells #[Value.string ⟨#[]⟩, Value.int .u32 0, .slice none 0 0, .int .i64 0, .slice none 0 0, .slice none 0 0, .slice none 0 0, .slice none 0 0] 29)) g go gr (fun _ => True)) := Lib.hid (fun _ _ => trivial)
  rw [← hgo, ← hg]
  rw [← hgr]
  have HGRL : Hid (w.heap.size ≤ gr) := Lib.hid (Nat.le_of_eq hgr.symm)
  clear hgo hg hgr hq HZ HZ1 HZ2 HG2 HR2
  have g1 : True := trivial
  have g2 : True := trivial
  have g3 : True := trivial
  have g4 : True := trivial
  refine (name_as HO0.out.rdr HE1.out).mono ?_
  rintro e w3 ⟨rfl, hb, r, k⟩
  have HNM := Lib.hid hb
  have HO1 := Lib.hid (HO0.out.read r k)
  clear hb r k
  go_wp2_with (first | (have _f := g1; refine store1_sep rfl 9 (.tmp 17) _ rfl (Sep.one HO1.out.obj) 0 (v := .string nm) (old := #[Value.string ⟨#[]⟩, Value.int .u32 0, .slice none 0 0, .int .i64 0, .slice none 0 0, .slice none 0 0, .slice none 0 0, .slice none 0 0]) rfl rfl rfl rfl (by kernel_rfl) rfl ?_; intro w4 S k _; have HO2 := Lib.hid (HO1.out.put (S.at 0 rfl) k); clear S k _f g1) | (have _f := g2; refine (word_as HO2.out.rdr HE2.out).mono ?_; rintro e w5 ⟨rfl, hb, r, k⟩; have HKY := Lib.hid hb; have HO3 := Lib.hid (HO2.out.read r k); clear hb r k _f g2) | (have _f := g3; refine store1_sep rfl 22 (.tmp 20) _ rfl (Sep.one HO3.out.obj) 0 (v := .int .u32 ky) (old := #[.string nm, Value.int .u32 0, .slice none 0 0, .int .i64 0, .slice none 0 0, .slice none 0 0, .slice none 0 0, .slice none 0 0]) rfl rfl rfl rfl (by kernel_rfl) rfl ?_; intro w6 S k _; have HO4 := Lib.hid (HO3.out.put (S.at 0 rfl) k); clear S k _f g3) | (have _f := g4; refine (small_as HO4.out.rdr 12 (by decide) (by decide) HE3.out).mono ?_; rintro e w7 ⟨rfl, hb, r, k⟩; obtain ⟨N1, rfl⟩ := Int.eq_ofNat_of_zero_le hb.1; have HC2 := Lib.hid hb; have HO5 := Lib.hid (HO4.out.read r k); clear hb r k _f g4))
  have HB2 := Lib.hid (HO5.out.anew)
  have HLT2 := Lib.hid HB2.out.lts
  have HGB2 : Hid (∀ i, (i = g ∨ i = go ∨ i = gr) → i < w7.heap.size) := Lib.hid (fun i hi => by have := HLT2.out; rcases hi with rfl | rfl | rfl; exact this.1; exact this.2.1; exact this.2.2)
  have HF2 := Lib.hid (HF.out.on HO5.out.ke)
  go_loopw [25] (fun i wr => ∃ (k : Nat) (v : Value), i = .int .i64 k ∧ k ≤ N1 ∧ OA w7 w1 gr #[Value.string ⟨#[]⟩, Value.int .u32 0, .slice none 0 0, .int .i64 0, .slice none 0 0, .slice none 0 0, .slice none 0 0, .slice none 0 0] wr g go (rLoop rImp k s4).2 #[.string nm, .int .u32 ky, v, .int .i64 0, .slice none 0 0, .slice none 0 0, .slice none 0 0, .slice none 0 0] ∧ RowLoop impD 45 w7 wr (fun i => i = g ∨ i = go ∨ i = gr) v (rLoop rImp k s4).1) (fun i _ => N1 - (intOf i).toNat)
  case atStart => exact ⟨0, _, rfl, Nat.zero_le _, HB2.out, RowLoop.start _ _ _ _⟩
  case round =>
    obtain ⟨k, v, rfl, hk, hq, hrow⟩ := hrel
    have HOr := Lib.hid hq
    have HRW := Lib.hid hrow
    clear hq hrow
    by_cases hlt : k < N1
    · have HLT := Lib.hid hlt
      clear hk
      obtain ⟨xn, t1, Exn⟩ : ∃ x s, rName 15 (rLoop rImp k s4).2 = (x, s) := ⟨_, _, rfl⟩
      have HExn := Lib.hid Exn
      clear Exn
      obtain ⟨xk, t2, Exk⟩ : ∃ x s, rWord t1 = (x, s) := ⟨_, _, rfl⟩
      have HExk := Lib.hid Exk
      clear Exk
      have HSN : Hid (rLoop rImp (k + 1) s4 = ((rLoop rImp k s4).1 ++ [(⟨xn, xk⟩ : Imp)], t2)) := Lib.hid (rLoop_next (rImp_of HExn.out HExk.out))
      have kb : (k : Int) < 1000000 := by have := HC2.out; omega
      have f1 : True := trivial
      have f2 : True := trivial
      have f3 : True := trivial
      have f4 : True := trivial
      have f5 : True := trivial
      have f6 : True := trivial
      go_wp2_with fail
      have HOd := Lib.hid (HOr.out.bel ((Below.refl _ wr).drew))
      have HRd := Lib.hid (HRW.out.bel HGB2.out ((Below.refl _ wr).drew))
      refine wp_region_tailK (G := (· ≠ go)) [([0, 1, 2, 4], 3), ([], 5), ([6], 7), ([], 8)] [9] 10 [9, 8, 7, 6, 5, 4, 3, 2, 1, 0] (by kernel_rfl) (by kernel_rfl) (fun _ _ d _ _ h => by cases d <;> exact h) ?_
      have l1 := HOd.out.obj.laterCell (G := (· ≠ go)) (fun h => h rfl) 2 (v := v) rfl
      have HKo : Hid (∀ {wa wb : World}, Ke (· = g) wa wb → Ke (· ≠ go) wa wb) := Lib.hid (fun k => k.mono (fun i _ e => by subst e; exact HOd.out.ne))
      have HNG : Hid (go < wr.drew.heap.size) := Lib.hid HOd.out.obj.lt
      refine mixT_stepK ?_
      simp only [pickOps, nth, Act.put, List.setIfInBounds_toArray, List.set_cons_succ, List.set_cons_zero]
      haveI : Nonempty World := ⟨w⟩
      (repeat (go_big_quiet_step (fail)))
      refine wpQuiet_nil ?_
      go_wp2_with (have _f := f1; refine (name_as HOd.out.rdr HExn.out).mono ?_; rintro e wx ⟨rfl, hb, r, kk⟩; have HXN := Lib.hid hb; have HO_wx := Lib.hid (HOd.out.read r kk); have HR_wx := Lib.hid (HRd.out.on HGB2.out (kk.mono fun i _ e => .inl e)); have HKK := Lib.hid kk; have HB_wx := Lib.hid kk.size; clear hb r kk _f f1)
      refine ⟨HKo.out HKK.out, mixT_stepK ?_⟩
      clear HKK l1
      simp only [pickOps, nth, Act.put, List.setIfInBounds_toArray, List.set_cons_succ, List.set_cons_zero]
      refine wpQuiet_nil ?_
      go_wp2_with (have _f := f2; refine (word_as HO_wx.out.rdr HExk.out).mono ?_; rintro e wy ⟨rfl, hb, r, kk⟩; have HXK := Lib.hid hb; have HO_wy := Lib.hid (HO_wx.out.read r kk); have HR_wy := Lib.hid (HR_wx.out.on HGB2.out (kk.mono fun i _ e => .inl e)); have HKK := Lib.hid kk; have HB_wy := Lib.hid kk.size; clear hb r kk _f f2)
      refine ⟨HKo.out HKK.out, mixT_stepK ?_⟩
      clear HKK 
      simp only [pickOps, nth, Act.put, List.setIfInBounds_toArray, List.set_cons_succ, List.set_cons_zero]
      haveI : Nonempty World := ⟨w⟩
      (repeat (go_big_quiet_step (fail)))
      refine wpQuiet_nil ?_
      go_wp2_with fail
      refine ⟨Ke.below _ (bel1 _ _), mixT_stepK ?_⟩
      have HN := Lib.hid (At.new wy #[.string xn, .int .u32 xk] 45)
      have HOb := Lib.hid (HO_wy.out.bel (bel1 wy (.cells #[.string xn, .int .u32 xk] 45)))
      have HRb := Lib.hid (HR_wy.out.bel HGB2.out (bel1 wy (.cells #[.string xn, .int .u32 xk] 45)))
      simp only [pickOps, nth, Act.put, List.setIfInBounds_toArray, List.set_cons_succ, List.set_cons_zero]
      refine wpQuiet_nil ?_
      refine append_at rfl (.tmp 28) (.tmp 34) et_imp rfl w7.heap.size rfl HRb.out.own rfl (rdc_at HN.out) rfl (by intro u hu; simp only [List.mem_cons, List.not_mem_nil, or_false] at hu; rcases hu with rfl | rfl <;> rfl) (by rw [rLoop_len]; have := HLT.out; have := HC2.out; omega) (by rw [rLoop_len]; have := HLT.out; have := HC2.out; omega) HRb.out.ke.size ?_
      intro v' wa ho hg hv
      obtain ⟨hr, hke⟩ := HRb.out.app (x := (⟨xn, xk⟩ : Imp)) HGB2.out ho hg hv (fun wy _ => show xn.size ≤ maxLen ∧ 0 ≤ xk ∧ xk < 4294967296 from ⟨by have := HXN.out; unfold maxLen; omega, HXK.out⟩)
      have HOa := Lib.hid (HOb.out.app HLT2.out.1 HLT2.out.2.1 hke)
      have HRa := Lib.hid hr
      have HKa : Hid (Ke (· ≠ go) _ wa) := Lib.hid (hke.mono (fun i _ hi e => by subst e; exact absurd HLT2.out.2.1 (Nat.not_lt.2 hi)))
      clear ho hg hv hr hke
      go_wp2_with fail
      refine ⟨HKa.out, mixT_endK ?_⟩
      simp only [pickOps, nth, Act.put, List.setIfInBounds_toArray, List.set_cons_succ, List.set_cons_zero]
      haveI : Nonempty World := ⟨w⟩
      (repeat (go_big_quiet_step (fail)))
      refine wpQuiet_nil ?_
      refine store1_sep rfl 23 (.tmp 36) (.tmp 35) rfl (Sep.one HOa.out.obj) 0 (v := v') (old := #[.string nm, .int .u32 ky, v, .int .i64 0, .slice none 0 0, .slice none 0 0, .slice none 0 0, .slice none 0 0]) rfl rfl rfl rfl (by kernel_rfl) (by obtain ⟨a, c, hv, _⟩ := RdC.own HRa.out.own; rw [hv]; rfl) ?_
      intro we S ke _
      have HOe := Lib.hid (HOa.out.put (S.at 0 rfl) ke)
      have HRe := Lib.hid (HRa.out.on HGB2.out (ke.mono fun i _ e => .inr (.inl e)))
      clear S ke
      go_wp2_with fail
      go_roundw
      case rel => exact ⟨k + 1, v', by go_num, HLT.out, by rw [HSN.out]; exact HOe.out, by rw [HSN.out]; exact HRe.out⟩
      case measure => simp [intOf]; have := HLT.out; omega
    obtain rfl : N1 = k := by omega
    clear hk hlt
    have hrow := HRW.out
    rw [show (rLoop rImp N1 s4) = (l2, s5) by have := HE4.out; rwa [Int.toNat_natCast] at this] at hrow
    have ho := HOr.out
    rw [show (rLoop rImp N1 s4) = (l2, s5) by have := HE4.out; rwa [Int.toNat_natCast] at this] at ho
    obtain ⟨p2, q2, rfl, hfin⟩ := hrow.fin HGB2.out
    have HO6 := Lib.hid ho
    have HFN2 := Lib.hid ((FinW.on HF2.out ho.ke).and hfin)
    have HL2 := Lib.hid (show l2.length = N1 by have := rLoop_len (rImp) N1 s4; rw [show (rLoop rImp N1 s4) = (l2, s5) by have := HE4.out; rwa [Int.toNat_natCast] at this] at this; exact this)
    clear ho hrow hfin HOr HRW HF2
    obtain ⟨w8, hwe⟩ : ∃ x, x = wr := ⟨_, rfl⟩
    subst hwe
    have HF := HFN2
    have HO7 := Lib.hid HO6.out.anew
    have g5 : True := trivial
    have g6 : True := trivial
    have g7 : True := trivial
    have g8 : True := trivial
    have g9 : True := trivial
    have ga : True := trivial
    go_wp2_with (first | (have _f := g5; refine (most_as HO7.out.rdr 262144 (by decide) (by decide) HE5.out).mono ?_; rintro e w9 ⟨rfl, hb, r, k⟩; have HVS := Lib.hid hb; have HO8 := Lib.hid (HO7.out.read r k); clear hb r k _f g5) | (have _f := g6; refine store1_sep rfl 3 (.tmp 42) _ rfl (Sep.one HO8.out.obj) 0 (v := .int .i64 vs) (old := #[.string nm, .int .u32 ky, .slice p2 l2.length q2, .int .i64 0, .slice none 0 0, .slice none 0 0, .slice none 0 0, .slice none 0 0]) rfl rfl rfl rfl (by kernel_rfl) rfl ?_; intro w10 S k _; have HO9 := Lib.hid (HO8.out.put (S.at 0 rfl) k); clear S k _f g6) | (have _f := g7; refine (most_as HO9.out.rdr 8192 (by decide) (by decide) HE6.out).mono ?_; rintro e w11 ⟨rfl, hb, r, k⟩; obtain ⟨N4, rfl⟩ := Int.eq_ofNat_of_zero_le hb.1; have HC4 := Lib.hid hb; have HO10 := Lib.hid (HO9.out.read r k); clear hb r k _f g7) | (have _f := g8; have hE := HE7.out; rw [Int.toNat_natCast] at hE; refine (some_as HO10.out.rdr N4 (by have := HC4.out; omega) hE).mono ?_; clear hE; rintro e w12 ⟨p4, q4, rfl, hr, r, k⟩; have HTX := Lib.hid hr; have HO11 := Lib.hid (HO10.out.read r k); clear hr r k _f g8) | (have _f := g9; refine store1_sep rfl 24 (.tmp 49) _ rfl (Sep.one HO11.out.obj) 0 (v := .slice p4 l4.length q4) (old := #[.string nm, .int .u32 ky, .slice p2 l2.length q2, .int .i64 vs, .slice none 0 0, .slice none 0 0, .slice none 0 0, .slice none 0 0]) rfl rfl rfl rfl (by kernel_rfl) rfl ?_; intro w13 S k _; have HO12 := Lib.hid (HO11.out.put (S.at 0 rfl) k); clear S k _f g9) | (have _f := ga; refine (most_as HO12.out.rdr 16384 (by decide) (by decide) HE8.out).mono ?_; rintro e w14 ⟨rfl, hb, r, k⟩; obtain ⟨N5, rfl⟩ := Int.eq_ofNat_of_zero_le hb.1; have HC5 := Lib.hid hb; have HO13 := Lib.hid (HO12.out.read r k); clear hb r k _f ga))
    have HB5 := Lib.hid (HO13.out.anew)
    have HLT5 := Lib.hid HB5.out.lts
    have HGB5 : Hid (∀ i, (i = g ∨ i = go ∨ i = gr) → i < w14.heap.size) := Lib.hid (fun i hi => by have := HLT5.out; rcases hi with rfl | rfl | rfl; exact this.1; exact this.2.1; exact this.2.2)
    have HF5 := Lib.hid (HF.out.on HO13.out.ke)
    go_loopw [54] (fun i wr => ∃ (k : Nat) (v : Value), i = .int .i64 k ∧ k ≤ N5 ∧ OA w14 w1 gr #[Value.string ⟨#[]⟩, Value.int .u32 0, .slice none 0 0, .int .i64 0, .slice none 0 0, .slice none 0 0, .slice none 0 0, .slice none 0 0] wr g go (rLoop rWord k s9).2 #[.string nm, .int .u32 ky, .slice p2 l2.length q2, .int .i64 vs, .slice p4 l4.length q4, v, .slice none 0 0, .slice none 0 0] ∧ RowLoop (intD .u32) 22 w14 wr (fun i => i = g ∨ i = go ∨ i = gr) v (rLoop rWord k s9).1) (fun i _ => N5 - (intOf i).toNat)
    case atStart => exact ⟨0, _, rfl, Nat.zero_le _, HB5.out, RowLoop.start _ _ _ _⟩
    case round =>
      obtain ⟨k, v, rfl, hk, hq, hrow⟩ := hrel
      have HOr := Lib.hid hq
      have HRW := Lib.hid hrow
      clear hq hrow
      by_cases hlt : k < N5
      · have HLT := Lib.hid hlt
        clear hk
        obtain ⟨xv, t1, Exv⟩ : ∃ x s, rWord (rLoop rWord k s9).2 = (x, s) := ⟨_, _, rfl⟩
        have HExv := Lib.hid Exv
        clear Exv
        have HSN : Hid (rLoop rWord (k + 1) s9 = ((rLoop rWord k s9).1 ++ [xv], t1)) := Lib.hid (rLoop_next HExv.out)
        have kb : (k : Int) < 1000000 := by have := HC5.out; omega
        have f1 : True := trivial
        have f2 : True := trivial
        have f3 : True := trivial
        have f4 : True := trivial
        have f5 : True := trivial
        have f6 : True := trivial
        go_wp2_with fail
        have HOd := Lib.hid (HOr.out.bel ((Below.refl _ wr).drew))
        have HRd := Lib.hid (HRW.out.bel HGB5.out ((Below.refl _ wr).drew))
        refine wp_region_tailK (G := (· ≠ go)) [([0, 1, 2], 3), ([], 4), ([], 5)] [6] 7 [6, 5, 4, 3, 2, 1, 0] (by kernel_rfl) (by kernel_rfl) (fun _ _ d _ _ h => by cases d <;> exact h) ?_
        have l1 := HOd.out.obj.laterCell (G := (· ≠ go)) (fun h => h rfl) 5 (v := v) rfl
        have HKo : Hid (∀ {wa wb : World}, Ke (· = g) wa wb → Ke (· ≠ go) wa wb) := Lib.hid (fun k => k.mono (fun i _ e => by subst e; exact HOd.out.ne))
        have HNG : Hid (go < wr.drew.heap.size) := Lib.hid HOd.out.obj.lt
        refine mixT_stepK ?_
        simp only [pickOps, nth, Act.put, List.setIfInBounds_toArray, List.set_cons_succ, List.set_cons_zero]
        haveI : Nonempty World := ⟨w⟩
        (repeat (go_big_quiet_step (fail)))
        refine wpQuiet_nil ?_
        go_wp2_with (have _f := f1; refine (word_as HOd.out.rdr HExv.out).mono ?_; rintro e wx ⟨rfl, hb, r, kk⟩; have HXV := Lib.hid hb; have HO_wx := Lib.hid (HOd.out.read r kk); have HR_wx := Lib.hid (HRd.out.on HGB5.out (kk.mono fun i _ e => .inl e)); have HKK := Lib.hid kk; have HB_wx := Lib.hid kk.size; clear hb r kk _f f1)
        refine ⟨HKo.out HKK.out, mixT_stepK ?_⟩
        clear HKK l1
        simp only [pickOps, nth, Act.put, List.setIfInBounds_toArray, List.set_cons_succ, List.set_cons_zero]
        refine wpQuiet_nil ?_
        go_wp2_with fail
        refine ⟨Ke.below _ (bel1 _ _), mixT_stepK ?_⟩
        have HN := Lib.hid (At.new wx #[.int .u32 xv] 22)
        have HOb := Lib.hid (HO_wx.out.bel (bel1 wx (.cells #[.int .u32 xv] 22)))
        have HRb := Lib.hid (HR_wx.out.bel HGB5.out (bel1 wx (.cells #[.int .u32 xv] 22)))
        simp only [pickOps, nth, Act.put, List.setIfInBounds_toArray, List.set_cons_succ, List.set_cons_zero]
        refine wpQuiet_nil ?_
        refine append_at rfl (.tmp 57) (.tmp 60) et_u32 rfl w14.heap.size rfl HRb.out.own rfl (rdc_at HN.out) rfl (by intro u hu; simp only [List.mem_cons, List.not_mem_nil, or_false] at hu; rcases hu with rfl; rfl) (by rw [rLoop_len]; have := HLT.out; have := HC5.out; omega) (by rw [rLoop_len]; have := HLT.out; have := HC5.out; omega) HRb.out.ke.size ?_
        intro v' wa ho hg hv
        obtain ⟨hr, hke⟩ := HRb.out.app (x := xv) HGB5.out ho hg hv (fun wy _ => bd_u32' HXV.out)
        have HOa := Lib.hid (HOb.out.app HLT5.out.1 HLT5.out.2.1 hke)
        have HRa := Lib.hid hr
        have HKa : Hid (Ke (· ≠ go) _ wa) := Lib.hid (hke.mono (fun i _ hi e => by subst e; exact absurd HLT5.out.2.1 (Nat.not_lt.2 hi)))
        clear ho hg hv hr hke
        go_wp2_with fail
        refine ⟨HKa.out, mixT_endK ?_⟩
        simp only [pickOps, nth, Act.put, List.setIfInBounds_toArray, List.set_cons_succ, List.set_cons_zero]
        haveI : Nonempty World := ⟨w⟩
        (repeat (go_big_quiet_step (fail)))
        refine wpQuiet_nil ?_
        refine store1_sep rfl 25 (.tmp 62) (.tmp 61) rfl (Sep.one HOa.out.obj) 0 (v := v') (old := #[.string nm, .int .u32 ky, .slice p2 l2.length q2, .int .i64 vs, .slice p4 l4.length q4, v, .slice none 0 0, .slice none 0 0]) rfl rfl rfl rfl (by kernel_rfl) (by obtain ⟨a, c, hv, _⟩ := RdC.own HRa.out.own; rw [hv]; rfl) ?_
        intro we S ke _
        have HOe := Lib.hid (HOa.out.put (S.at 0 rfl) ke)
        have HRe := Lib.hid (HRa.out.on HGB5.out (ke.mono fun i _ e => .inr (.inl e)))
        clear S ke
        go_wp2_with fail
        go_roundw
        case rel => exact ⟨k + 1, v', by go_num, HLT.out, by rw [HSN.out]; exact HOe.out, by rw [HSN.out]; exact HRe.out⟩
        case measure => simp [intOf]; have := HLT.out; omega
      obtain rfl : N5 = k := by omega
      clear hk hlt
      have hrow := HRW.out
      rw [show (rLoop rWord N5 s9) = (l5, s10) by have := HE9.out; rwa [Int.toNat_natCast] at this] at hrow
      have ho := HOr.out
      rw [show (rLoop rWord N5 s9) = (l5, s10) by have := HE9.out; rwa [Int.toNat_natCast] at this] at ho
      obtain ⟨p5, q5, rfl, hfin⟩ := hrow.fin HGB5.out
      have HO14 := Lib.hid ho
      have HFN5 := Lib.hid ((FinW.on HF5.out ho.ke).and hfin)
      have HL5 := Lib.hid (show l5.length = N5 by have := rLoop_len (rWord) N5 s9; rw [show (rLoop rWord N5 s9) = (l5, s10) by have := HE9.out; rwa [Int.toNat_natCast] at this] at this; exact this)
      clear ho hrow hfin HOr HRW HF5
      obtain ⟨w15, hwe⟩ : ∃ x, x = wr := ⟨_, rfl⟩
      subst hwe
      have HF := HFN5
      have HO15 := Lib.hid HO14.out.anew
      have gb : True := trivial
      go_wp2_with (first | (have _f := gb; refine (byte_as HO15.out.rdr HE10.out).mono ?_; rintro e w16 ⟨rfl, hb, r, k⟩; obtain ⟨N6, rfl⟩ := Int.eq_ofNat_of_zero_le hb.1; have HC6 := Lib.hid hb; have HO16 := Lib.hid (HO15.out.read r k); clear hb r k _f gb))
      have HB6 := Lib.hid (HO16.out.anew)
      have HLT6 := Lib.hid HB6.out.lts
      have HGB6 : Hid (∀ i, (i = g ∨ i = go ∨ i = gr) → i < w16.heap.size) := Lib.hid (fun i hi => by have := HLT6.out; rcases hi with rfl | rfl | rfl; exact this.1; exact this.2.1; exact this.2.2)
      have HF6 := Lib.hid (HF.out.on HO16.out.ke)
      go_loopw [66] (fun i wr => ∃ (k : Nat) (v : Value), i = .int .i64 k ∧ k ≤ N6 ∧ OA w16 w1 gr #[Value.string ⟨#[]⟩, Value.int .u32 0, .slice none 0 0, .int .i64 0, .slice none 0 0, .slice none 0 0, .slice none 0 0, .slice none 0 0] wr g go (rLoop (rMost 16384) k s11).2 #[.string nm, .int .u32 ky, .slice p2 l2.length q2, .int .i64 vs, .slice p4 l4.length q4, .slice p5 l5.length q5, v, .slice none 0 0] ∧ RowLoop (intD .i64) 3 w16 wr (fun i => i = g ∨ i = go ∨ i = gr) v (rLoop (rMost 16384) k s11).1) (fun i _ => N6 - (intOf i).toNat)
      case atStart => exact ⟨0, _, rfl, Nat.zero_le _, HB6.out, RowLoop.start _ _ _ _⟩
      case round =>
        obtain ⟨k, v, rfl, hk, hq, hrow⟩ := hrel
        have HOr := Lib.hid hq
        have HRW := Lib.hid hrow
        clear hq hrow
        by_cases hlt : k < N6
        · have HLT := Lib.hid hlt
          clear hk
          obtain ⟨xv, t1, Exv⟩ : ∃ x s, rMost 16384 (rLoop (rMost 16384) k s11).2 = (x, s) := ⟨_, _, rfl⟩
          have HExv := Lib.hid Exv
          clear Exv
          have HSN : Hid (rLoop (rMost 16384) (k + 1) s11 = ((rLoop (rMost 16384) k s11).1 ++ [xv], t1)) := Lib.hid (rLoop_next HExv.out)
          have kb : (k : Int) < 1000000 := by have := HC6.out; omega
          have f1 : True := trivial
          have f2 : True := trivial
          have f3 : True := trivial
          have f4 : True := trivial
          have f5 : True := trivial
          have f6 : True := trivial
          go_wp2_with fail
          have HOd := Lib.hid (HOr.out.bel ((Below.refl _ wr).drew))
          have HRd := Lib.hid (HRW.out.bel HGB6.out ((Below.refl _ wr).drew))
          refine wp_region_tailK (G := (· ≠ go)) [([0, 1, 2, 3], 4), ([], 5), ([], 6), ([], 7)] [8] 9 [8, 7, 6, 5, 4, 3, 2, 1, 0] (by kernel_rfl) (by kernel_rfl) (fun _ _ d _ _ h => by cases d <;> exact h) ?_
          have l1 := HOd.out.obj.laterCell (G := (· ≠ go)) (fun h => h rfl) 6 (v := v) rfl
          have HKo : Hid (∀ {wa wb : World}, Ke (· = g) wa wb → Ke (· ≠ go) wa wb) := Lib.hid (fun k => k.mono (fun i _ e => by subst e; exact HOd.out.ne))
          have HNG : Hid (go < wr.drew.heap.size) := Lib.hid HOd.out.obj.lt
          refine mixT_stepK ?_
          simp only [pickOps, nth, Act.put, List.setIfInBounds_toArray, List.set_cons_succ, List.set_cons_zero]
          haveI : Nonempty World := ⟨w⟩
          (repeat (go_big_quiet_step (fail)))
          refine wpQuiet_nil ?_
          go_wp2_with fail
          refine ⟨Ke.refl _ _, mixT_stepK ?_⟩
          simp only [pickOps, nth, Act.put, List.setIfInBounds_toArray, List.set_cons_succ, List.set_cons_zero]
          refine wpQuiet_nil ?_
          go_wp2_with (have _f := f2; refine (most_as HOd.out.rdr 16384 (by decide) (by decide) HExv.out).mono ?_; rintro e wx ⟨rfl, hb, r, kk⟩; have HXV := Lib.hid hb; have HO_wx := Lib.hid (HOd.out.read r kk); have HR_wx := Lib.hid (HRd.out.on HGB6.out (kk.mono fun i _ e => .inl e)); have HKK := Lib.hid kk; have HB_wx := Lib.hid kk.size; clear hb r kk _f f2)
          refine ⟨HKo.out HKK.out, mixT_stepK ?_⟩
          clear HKK l1
          simp only [pickOps, nth, Act.put, List.setIfInBounds_toArray, List.set_cons_succ, List.set_cons_zero]
          refine wpQuiet_nil ?_
          go_wp2_with fail
          refine ⟨Ke.below _ (bel1 _ _), mixT_stepK ?_⟩
          have HN := Lib.hid (At.new wx #[.int .i64 xv] 3)
          have HOb := Lib.hid (HO_wx.out.bel (bel1 wx (.cells #[.int .i64 xv] 3)))
          have HRb := Lib.hid (HR_wx.out.bel HGB6.out (bel1 wx (.cells #[.int .i64 xv] 3)))
          simp only [pickOps, nth, Act.put, List.setIfInBounds_toArray, List.set_cons_succ, List.set_cons_zero]
          refine wpQuiet_nil ?_
          refine append_at rfl (.tmp 69) (.tmp 74) et_int rfl w16.heap.size rfl HRb.out.own rfl (rdc_at HN.out) rfl (by intro u hu; simp only [List.mem_cons, List.not_mem_nil, or_false] at hu; rcases hu with rfl; rfl) (by rw [rLoop_len]; have := HLT.out; have := HC6.out; omega) (by rw [rLoop_len]; have := HLT.out; have := HC6.out; omega) HRb.out.ke.size ?_
          intro v' wa ho hg hv
          obtain ⟨hr, hke⟩ := HRb.out.app (x := xv) HGB6.out ho hg hv (fun wy _ => bd_i64' (by have := HXV.out; omega))
          have HOa := Lib.hid (HOb.out.app HLT6.out.1 HLT6.out.2.1 hke)
          have HRa := Lib.hid hr
          have HKa : Hid (Ke (· ≠ go) _ wa) := Lib.hid (hke.mono (fun i _ hi e => by subst e; exact absurd HLT6.out.2.1 (Nat.not_lt.2 hi)))
          clear ho hg hv hr hke
          go_wp2_with fail
          refine ⟨HKa.out, mixT_endK ?_⟩
          simp only [pickOps, nth, Act.put, List.setIfInBounds_toArray, List.set_cons_succ, List.set_cons_zero]
          haveI : Nonempty World := ⟨w⟩
          (repeat (go_big_quiet_step (fail)))
          refine wpQuiet_nil ?_
          refine store1_sep rfl 26 (.tmp 76) (.tmp 75) rfl (Sep.one HOa.out.obj) 0 (v := v') (old := #[.string nm, .int .u32 ky, .slice p2 l2.length q2, .int .i64 vs, .slice p4 l4.length q4, .slice p5 l5.length q5, v, .slice none 0 0]) rfl rfl rfl rfl (by kernel_rfl) (by obtain ⟨a, c, hv, _⟩ := RdC.own HRa.out.own; rw [hv]; rfl) ?_
          intro we S ke _
          have HOe := Lib.hid (HOa.out.put (S.at 0 rfl) ke)
          have HRe := Lib.hid (HRa.out.on HGB6.out (ke.mono fun i _ e => .inr (.inl e)))
          clear S ke
          go_wp2_with fail
          go_roundw
          case rel => exact ⟨k + 1, v', by go_num, HLT.out, by rw [HSN.out]; exact HOe.out, by rw [HSN.out]; exact HRe.out⟩
          case measure => simp [intOf]; have := HLT.out; omega
        obtain rfl : N6 = k := by omega
        clear hk hlt
        have hrow := HRW.out
        rw [show (rLoop (rMost 16384) N6 s11) = (l6, s12) by have := HE11.out; rwa [Int.toNat_natCast] at this] at hrow
        have ho := HOr.out
        rw [show (rLoop (rMost 16384) N6 s11) = (l6, s12) by have := HE11.out; rwa [Int.toNat_natCast] at this] at ho
        obtain ⟨p6, q6, rfl, hfin⟩ := hrow.fin HGB6.out
        have HO17 := Lib.hid ho
        have HFN6 := Lib.hid ((FinW.on HF6.out ho.ke).and hfin)
        have HL6 := Lib.hid (show l6.length = N6 by have := rLoop_len ((rMost 16384)) N6 s11; rw [show (rLoop (rMost 16384) N6 s11) = (l6, s12) by have := HE11.out; rwa [Int.toNat_natCast] at this] at this; exact this)
        clear ho hrow hfin HOr HRW HF6
        obtain ⟨w17, hwe⟩ : ∃ x, x = wr := ⟨_, rfl⟩
        subst hwe
        have HF := HFN6
        have HO18 := Lib.hid HO17.out.anew
        have gc : True := trivial
        go_wp2_with (first | (have _f := gc; refine (most_as HO18.out.rdr 8192 (by decide) (by decide) HE12.out).mono ?_; rintro e w18 ⟨rfl, hb, r, k⟩; obtain ⟨N7, rfl⟩ := Int.eq_ofNat_of_zero_le hb.1; have HC7 := Lib.hid hb; have HO19 := Lib.hid (HO18.out.read r k); clear hb r k _f gc))
        have HB7 := Lib.hid (HO19.out.anew)
        have HLT7 := Lib.hid HB7.out.lts
        have HGB7 : Hid (∀ i, (i = g ∨ i = go ∨ i = gr) → i < w18.heap.size) := Lib.hid (fun i hi => by have := HLT7.out; rcases hi with rfl | rfl | rfl; exact this.1; exact this.2.1; exact this.2.2)
        have HF7 := Lib.hid (HF.out.on HO19.out.ke)
        go_loopw [82] (fun i wr => ∃ (k : Nat) (v : Value), i = .int .i64 k ∧ k ≤ N7 ∧ OA w18 w1 gr #[Value.string ⟨#[]⟩, Value.int .u32 0, .slice none 0 0, .int .i64 0, .slice none 0 0, .slice none 0 0, .slice none 0 0, .slice none 0 0] wr g go (rLoop rFix k s13).2 #[.string nm, .int .u32 ky, .slice p2 l2.length q2, .int .i64 vs, .slice p4 l4.length q4, .slice p5 l5.length q5, .slice p6 l6.length q6, v] ∧ RowLoop fixD 51 w18 wr (fun i => i = g ∨ i = go ∨ i = gr) v (rLoop rFix k s13).1) (fun i _ => N7 - (intOf i).toNat)
        case atStart => exact ⟨0, _, rfl, Nat.zero_le _, HB7.out, RowLoop.start _ _ _ _⟩
        case round =>
          obtain ⟨k, v, rfl, hk, hq, hrow⟩ := hrel
          have HOr := Lib.hid hq
          have HRW := Lib.hid hrow
          clear hq hrow
          by_cases hlt : k < N7
          · have HLT := Lib.hid hlt
            clear hk
            obtain ⟨xp, t1, Exp⟩ : ∃ x s, rMost 16384 (rLoop rFix k s13).2 = (x, s) := ⟨_, _, rfl⟩
            have HExp := Lib.hid Exp
            clear Exp
            obtain ⟨xm, t2, Exm⟩ : ∃ x s, rByte t1 = (x, s) := ⟨_, _, rfl⟩
            have HExm := Lib.hid Exm
            clear Exm
            obtain ⟨xe, t3, Exe⟩ : ∃ x s, rByte t2 = (x, s) := ⟨_, _, rfl⟩
            have HExe := Lib.hid Exe
            clear Exe
            have HSN : Hid (rLoop rFix (k + 1) s13 = ((rLoop rFix k s13).1 ++ [(⟨xp, xm, xe⟩ : Fix)], t3)) := Lib.hid (rLoop_next (rFix_of HExp.out HExm.out HExe.out))
            have kb : (k : Int) < 1000000 := by have := HC7.out; omega
            have f1 : True := trivial
            have f2 : True := trivial
            have f3 : True := trivial
            have f4 : True := trivial
            have f5 : True := trivial
            have f6 : True := trivial
            go_wp2_with fail
            have HOd := Lib.hid (HOr.out.bel ((Below.refl _ wr).drew))
            have HRd := Lib.hid (HRW.out.bel HGB7.out ((Below.refl _ wr).drew))
            refine wp_region_tailK (G := (· ≠ go)) [([0, 1, 2, 3, 6, 8], 4), ([], 5), ([], 7), ([], 9), ([10], 11), ([], 12)] [13] 14 [13, 12, 11, 10, 9, 8, 7, 6, 5, 4, 3, 2, 1, 0] (by kernel_rfl) (by kernel_rfl) (fun _ _ d _ _ h => by cases d <;> exact h) ?_
            have l1 := HOd.out.obj.laterCell (G := (· ≠ go)) (fun h => h rfl) 7 (v := v) rfl
            have HKo : Hid (∀ {wa wb : World}, Ke (· = g) wa wb → Ke (· ≠ go) wa wb) := Lib.hid (fun k => k.mono (fun i _ e => by subst e; exact HOd.out.ne))
            have HNG : Hid (go < wr.drew.heap.size) := Lib.hid HOd.out.obj.lt
            refine mixT_stepK ?_
            simp only [pickOps, nth, Act.put, List.setIfInBounds_toArray, List.set_cons_succ, List.set_cons_zero]
            haveI : Nonempty World := ⟨w⟩
            (repeat (go_big_quiet_step (fail)))
            refine wpQuiet_nil ?_
            go_wp2_with fail
            refine ⟨Ke.refl _ _, mixT_stepK ?_⟩
            simp only [pickOps, nth, Act.put, List.setIfInBounds_toArray, List.set_cons_succ, List.set_cons_zero]
            refine wpQuiet_nil ?_
            go_wp2_with (have _f := f2; refine (most_as HOd.out.rdr 16384 (by decide) (by decide) HExp.out).mono ?_; rintro e wx ⟨rfl, hb, r, kk⟩; have HXP := Lib.hid hb; have HO_wx := Lib.hid (HOd.out.read r kk); have HR_wx := Lib.hid (HRd.out.on HGB7.out (kk.mono fun i _ e => .inl e)); have HKK := Lib.hid kk; have HB_wx := Lib.hid kk.size; clear hb r kk _f f2)
            refine ⟨HKo.out HKK.out, mixT_stepK ?_⟩
            clear HKK l1
            simp only [pickOps, nth, Act.put, List.setIfInBounds_toArray, List.set_cons_succ, List.set_cons_zero]
            refine wpQuiet_nil ?_
            go_wp2_with (have _f := f3; refine (byte_as HO_wx.out.rdr HExm.out).mono ?_; rintro e wy ⟨rfl, hb, r, kk⟩; have HXM := Lib.hid hb; have HO_wy := Lib.hid (HO_wx.out.read r kk); have HR_wy := Lib.hid (HR_wx.out.on HGB7.out (kk.mono fun i _ e => .inl e)); have HKK := Lib.hid kk; have HB_wy := Lib.hid kk.size; clear hb r kk _f f3)
            refine ⟨HKo.out HKK.out, mixT_stepK ?_⟩
            clear HKK 
            simp only [pickOps, nth, Act.put, List.setIfInBounds_toArray, List.set_cons_succ, List.set_cons_zero]
            refine wpQuiet_nil ?_
            go_wp2_with (have _f := f4; refine (byte_as HO_wy.out.rdr HExe.out).mono ?_; rintro e wz ⟨rfl, hb, r, kk⟩; have HXE := Lib.hid hb; have HO_wz := Lib.hid (HO_wy.out.read r kk); have HR_wz := Lib.hid (HR_wy.out.on HGB7.out (kk.mono fun i _ e => .inl e)); have HKK := Lib.hid kk; have HB_wz := Lib.hid kk.size; clear hb r kk _f f4)
            refine ⟨HKo.out HKK.out, mixT_stepK ?_⟩
            clear HKK 
            simp only [pickOps, nth, Act.put, List.setIfInBounds_toArray, List.set_cons_succ, List.set_cons_zero]
            haveI : Nonempty World := ⟨w⟩
            (repeat (go_big_quiet_step (fail)))
            refine wpQuiet_nil ?_
            go_wp2_with fail
            refine ⟨Ke.below _ (bel1 _ _), mixT_stepK ?_⟩
            have HN := Lib.hid (At.new wz #[.int .i64 xp, .int .i64 xm, .int .i64 xe] 51)
            have HOb := Lib.hid (HO_wz.out.bel (bel1 wz (.cells #[.int .i64 xp, .int .i64 xm, .int .i64 xe] 51)))
            have HRb := Lib.hid (HR_wz.out.bel HGB7.out (bel1 wz (.cells #[.int .i64 xp, .int .i64 xm, .int .i64 xe] 51)))
            simp only [pickOps, nth, Act.put, List.setIfInBounds_toArray, List.set_cons_succ, List.set_cons_zero]
            refine wpQuiet_nil ?_
            refine append_at rfl (.tmp 85) (.tmp 95) et_fix rfl w18.heap.size rfl HRb.out.own rfl (rdc_at HN.out) rfl (by intro u hu; simp only [List.mem_cons, List.not_mem_nil, or_false] at hu; rcases hu with rfl | rfl | rfl <;> rfl) (by rw [rLoop_len]; have := HLT.out; have := HC7.out; omega) (by rw [rLoop_len]; have := HLT.out; have := HC7.out; omega) HRb.out.ke.size ?_
            intro v' wa ho hg hv
            obtain ⟨hr, hke⟩ := HRb.out.app (x := (⟨xp, xm, xe⟩ : Fix)) HGB7.out ho hg hv (fun wy _ => show i64In xp ∧ i64In xm ∧ i64In xe from ⟨by have := HXP.out; unfold i64In; omega, by have := HXM.out; unfold i64In; omega, by have := HXE.out; unfold i64In; omega⟩)
            have HOa := Lib.hid (HOb.out.app HLT7.out.1 HLT7.out.2.1 hke)
            have HRa := Lib.hid hr
            have HKa : Hid (Ke (· ≠ go) _ wa) := Lib.hid (hke.mono (fun i _ hi e => by subst e; exact absurd HLT7.out.2.1 (Nat.not_lt.2 hi)))
            clear ho hg hv hr hke
            go_wp2_with fail
            refine ⟨HKa.out, mixT_endK ?_⟩
            simp only [pickOps, nth, Act.put, List.setIfInBounds_toArray, List.set_cons_succ, List.set_cons_zero]
            haveI : Nonempty World := ⟨w⟩
            (repeat (go_big_quiet_step (fail)))
            refine wpQuiet_nil ?_
            refine store1_sep rfl 27 (.tmp 97) (.tmp 96) rfl (Sep.one HOa.out.obj) 0 (v := v') (old := #[.string nm, .int .u32 ky, .slice p2 l2.length q2, .int .i64 vs, .slice p4 l4.length q4, .slice p5 l5.length q5, .slice p6 l6.length q6, v]) rfl rfl rfl rfl (by kernel_rfl) (by obtain ⟨a, c, hv, _⟩ := RdC.own HRa.out.own; rw [hv]; rfl) ?_
            intro we S ke _
            have HOe := Lib.hid (HOa.out.put (S.at 0 rfl) ke)
            have HRe := Lib.hid (HRa.out.on HGB7.out (ke.mono fun i _ e => .inr (.inl e)))
            clear S ke
            go_wp2_with fail
            go_roundw
            case rel => exact ⟨k + 1, v', by go_num, HLT.out, by rw [HSN.out]; exact HOe.out, by rw [HSN.out]; exact HRe.out⟩
            case measure => simp [intOf]; have := HLT.out; omega
          obtain rfl : N7 = k := by omega
          clear hk hlt
          have hrow := HRW.out
          rw [show (rLoop rFix N7 s13) = (l7, s14') by have := HE13.out; rwa [Int.toNat_natCast] at this] at hrow
          have ho := HOr.out
          rw [show (rLoop rFix N7 s13) = (l7, s14') by have := HE13.out; rwa [Int.toNat_natCast] at this] at ho
          obtain ⟨p7, q7, rfl, hfin⟩ := hrow.fin HGB7.out
          have HO20 := Lib.hid ho
          have HFN7 := Lib.hid ((FinW.on HF7.out ho.ke).and hfin)
          have HL7 := Lib.hid (show l7.length = N7 by have := rLoop_len (rFix) N7 s13; rw [show (rLoop rFix N7 s13) = (l7, s14') by have := HE13.out; rwa [Int.toNat_natCast] at this] at this; exact this)
          clear ho hrow hfin HOr HRW HF7
          obtain ⟨w19, hwe⟩ : ∃ x, x = wr := ⟨_, rfl⟩
          subst hwe
          have HF := HFN7
          have HO21 := Lib.hid HO20.out.anew
          have HBW : Hid (Below w.heap.size w w19) := Lib.hid (HB1.out.trans (HO21.out.rdr.bel.mono HB1.out.size))
          have HFB : Hid (∀ w', Ke (· = gr) w19 w' → Below w.heap.size w w') := Lib.hid (fun w' k => HBW.out.trans (bel_ke k (fun i e => by subst e; exact HGRL.out) HBW.out.size))
          have HRD : Hid (∀ wz, Below w19.heap.size w19 wz → (⟨nm, ky, ⟨p2, q2, l2⟩, vs, ⟨p4, q4, l4⟩, ⟨p5, q5, l5⟩, ⟨p6, q6, l6⟩, ⟨p7, q7, l7⟩⟩ : Obj).Rd wz) := Lib.hid (fun wz k => by
            obtain ⟨⟨⟨⟨_, r2⟩, r5⟩, r6⟩, r7⟩ := HF.out wz (Ke.below _ k)
            exact ⟨by show nm.size ≤ maxLen; have := HNM.out; unfold maxLen; omega, HKY.out, r2, by show i64In vs; have := HVS.out; unfold i64In; omega, Rows.ofI ((HTX.out.below HO21.out.rdr.bel (Nat.le_refl _)).below k (Nat.le_refl _)), r5, r6, r7⟩)
          have HRG : Hid (∀ wz wy, Below w19.heap.size w19 wz → At wz gr #[Value.string ⟨#[]⟩, Value.int .u32 0, .slice none 0 0, .int .i64 0, .slice none 0 0, .slice none 0 0, .slice none 0 0, .slice none 0 0] 29 → Ke (· = gr) wz wy → (⟨nm, ky, ⟨p2, q2, l2⟩, vs, ⟨p4, q4, l4⟩, ⟨p5, q5, l5⟩, ⟨p6, q6, l6⟩, ⟨p7, q7, l7⟩⟩ : Obj).Rd wy) := Lib.hid (fun wz wy k hA kk => by
            obtain ⟨⟨⟨⟨_, r2⟩, r5⟩, r6⟩, r7⟩ := HF.out wy ((Ke.below _ k).trans (kk.mono fun i _ e => .inr (.inr e)))
            refine ⟨by show nm.size ≤ maxLen; have := HNM.out; unfold maxLen; omega, HKY.out, r2, by show i64In vs; have := HVS.out; unfold i64In; omega, Rows.ofI (rdi_ke ((HTX.out.below HO21.out.rdr.bel (Nat.le_refl _)).below k (Nat.le_refl _)) hA (fun o x => ?_) kk), r5, r6, r7⟩
            match o with
            | 0 => intro hh; cases hh
            | 1 => intro hh; cases hh
            | 2 => intro hh; cases hh
            | 3 => intro hh; cases hh
            | 4 => intro hh; cases hh
            | 5 => intro hh; cases hh
            | 6 => intro hh; cases hh
            | 7 => intro hh; cases hh
            | o + 8 => intro hh; cases hh)
          have HM : Hid (∀ W, Below w19.heap.size w19 W → Calls Try.prog 31 #[.agg #[.string nm, .int .u32 ky, .slice p2 l2.length q2, .int .i64 vs, .slice p4 l4.length q4, .slice p5 l5.length q5, .slice p6 l6.length q6, .slice p7 l7.length q7]] W fun e w' => e = .returned (.bool (mayObj ⟨nm, ky, l2, vs, l4, l5, l6, l7⟩)) ∧ Below W.heap.size W w') := Lib.hid (fun W k => omay_walk (⟨nm, ky, ⟨p2, q2, l2⟩, vs, ⟨p4, q4, l4⟩, ⟨p5, q5, l5⟩, ⟨p6, q6, l6⟩, ⟨p7, q7, l7⟩⟩ : Obj) W (HRD.out W k))
          have hbox := HO21.out.rdr.box
          obtain ⟨B, bad, hbx, hlf⟩ := hbox
          have c0 : w19.cell? ⟨g, 0, none⟩ = some B := (hbx.cell 0).trans rfl
          have c1 : w19.cell? ⟨g, 1, none⟩ = some (.bool bad) := (hbx.cell 1).trans rfl
          clear hbx
          have HZR := Lib.hid HO21.out.res
          have z1 : True := trivial
          have z2 : True := trivial
          have z3 : True := trivial
          have z4 : True := trivial
          cases s14' with
          | none =>
            obtain ⟨rfl, rfl⟩ := hlf
            go_wp2_with (first | (have _f := z1; refine store_sep (cells := #[Value.string ⟨#[]⟩, Value.int .u32 0, .slice none 0 0, .int .i64 0, .slice none 0 0, .slice none 0 0, .slice none 0 0, .slice none 0 0]) rfl 29 (.tmp 2) (.tmp 116) rfl (Sep.one HZR.out) 0 rfl rfl rfl (by kernel_rfl) rfl rfl ?_; intro wf S k _; have HSF : Hid (At wf gr #[Value.string ⟨#[]⟩, Value.int .u32 0, .slice none 0 0, .int .i64 0, .slice none 0 0, .slice none 0 0, .slice none 0 0, .slice none 0 0] 29) := Lib.hid (S.at 0 rfl); have HKF := Lib.hid k; clear S k _f z1; refine assign_end rfl (.const (.int .i64 4)) rfl rfl ?_; refine wpList_nil ?_; refine ‹∀ (a : Act) (w : World), Code.wp Try.prog Code.ret _ a w → _› _ _ ?_; refine wp_ret ?_; (try unfold Exit.then); change bodyPost Try.prog Try.f14 _ .ret _ _; exact bodyPost_ret (res_cell_tmp rfl rfl HSF.out Try.underlying29 rfl (by kernel_rfl)) rfl ⟨HFB.out _ HKF.out, .inr ⟨fun hh => (by cases hh.1), rfl⟩⟩))
          | some r =>
            obtain ⟨rfl, a9, c9, rfl, hr9, _⟩ := hlf
            have HL9 := Lib.hid hr9.len
            clear hr9
            cases r with
            | cons y r =>
              have hp9 : (0 : Int) < (y :: r).length := by rw [List.length_cons]; omega
              have hle9 := HL9.out
              go_wp2_with (first | (have _f := z1; refine store_sep (cells := #[Value.string ⟨#[]⟩, Value.int .u32 0, .slice none 0 0, .int .i64 0, .slice none 0 0, .slice none 0 0, .slice none 0 0, .slice none 0 0]) rfl 29 (.tmp 2) (.tmp 116) rfl (Sep.one HZR.out) 0 rfl rfl rfl (by kernel_rfl) rfl rfl ?_; intro wf S k _; have HSF : Hid (At wf gr #[Value.string ⟨#[]⟩, Value.int .u32 0, .slice none 0 0, .int .i64 0, .slice none 0 0, .slice none 0 0, .slice none 0 0, .slice none 0 0] 29) := Lib.hid (S.at 0 rfl); have HKF := Lib.hid k; clear S k _f z1; refine assign_end rfl (.const (.int .i64 4)) rfl rfl ?_; refine wpList_nil ?_; refine ‹∀ (a : Act) (w : World), Code.wp Try.prog Code.ret _ a w → _› _ _ ?_; refine wp_ret ?_; (try unfold Exit.then); change bodyPost Try.prog Try.f14 _ .ret _ _; exact bodyPost_ret (res_cell_tmp rfl rfl HSF.out Try.underlying29 rfl (by kernel_rfl)) rfl ⟨HFB.out _ HKF.out, .inr ⟨fun hh => (by cases hh.1), rfl⟩⟩))
            | nil =>
              cases hmb : mayObj ⟨nm, ky, l2, vs, l4, l5, l6, l7⟩ with
              | false =>
                have HMB := Lib.hid hmb
                clear hmb
                go_wp2_with (first | (have _f := z2; refine guard_off (by kernel_rfl) ?_; refine load_sep (cs := #[.string nm, .int .u32 ky, .slice p2 l2.length q2, .int .i64 vs, .slice p4 l4.length q4, .slice p5 l5.length q5, .slice p6 l6.length q6, .slice p7 l7.length q7]) rfl 29 (.tmp 5) rfl (Sep.one HO21.out.obj) 0 rfl rfl Try.underlying29 rfl (by kernel_rfl) ?_; clear _f z2) | (have _f := z3; refine (HM.out _ (Below.refl _ _)).mono ?_; rw [HMB.out]; rintro e wm ⟨rfl, hb⟩; have HBM := Lib.hid hb; have HZM := Lib.hid (HZR.out.bel hb); have HOM := Lib.hid (HO21.out.obj.bel hb); clear hb _f z3) | (have _f := z1; refine store_sep (cells := #[Value.string ⟨#[]⟩, Value.int .u32 0, .slice none 0 0, .int .i64 0, .slice none 0 0, .slice none 0 0, .slice none 0 0, .slice none 0 0]) rfl 29 (.tmp 2) (.tmp 116) rfl (Sep.one HZM.out) 0 rfl rfl rfl (by kernel_rfl) rfl rfl ?_; intro wf S k _; have HSF : Hid (At wf gr #[Value.string ⟨#[]⟩, Value.int .u32 0, .slice none 0 0, .int .i64 0, .slice none 0 0, .slice none 0 0, .slice none 0 0, .slice none 0 0] 29) := Lib.hid (S.at 0 rfl); have HKF := Lib.hid k; clear S k _f z1; refine assign_end rfl (.const (.int .i64 4)) rfl rfl ?_; refine wpList_nil ?_; refine ‹∀ (a : Act) (w : World), Code.wp Try.prog Code.ret _ a w → _› _ _ ?_; refine wp_ret ?_; (try unfold Exit.then); change bodyPost Try.prog Try.f14 _ .ret _ _; exact bodyPost_ret (res_cell_tmp rfl rfl HSF.out Try.underlying29 rfl (by kernel_rfl)) rfl ⟨HBW.out.trans (bel_then2 HBM.out HKF.out HGRL.out HBW.out.size), .inr ⟨fun hh => absurd hh.2 (by rw [HMB.out]; decide), rfl⟩⟩))
              | true =>
                have HMB := Lib.hid hmb
                clear hmb
                go_wp2_with (first | (have _f := z2; refine guard_off (by kernel_rfl) ?_; refine load_sep (cs := #[.string nm, .int .u32 ky, .slice p2 l2.length q2, .int .i64 vs, .slice p4 l4.length q4, .slice p5 l5.length q5, .slice p6 l6.length q6, .slice p7 l7.length q7]) rfl 29 (.tmp 5) rfl (Sep.one HO21.out.obj) 0 rfl rfl Try.underlying29 rfl (by kernel_rfl) ?_; clear _f z2) | (have _f := z3; refine (HM.out _ (Below.refl _ _)).mono ?_; rw [HMB.out]; rintro e wm ⟨rfl, hb⟩; have HBM := Lib.hid hb; have HZM := Lib.hid (HZR.out.bel hb); have HOM := Lib.hid (HO21.out.obj.bel hb); clear hb _f z3) | (have _f := z4; refine load_sep (cs := #[.string nm, .int .u32 ky, .slice p2 l2.length q2, .int .i64 vs, .slice p4 l4.length q4, .slice p5 l5.length q5, .slice p6 l6.length q6, .slice p7 l7.length q7]) rfl 29 (.tmp 5) rfl (Sep.one HOM.out) 0 rfl rfl Try.underlying29 rfl (by kernel_rfl) ?_; clear _f z4) | (have _f := z1; refine store_sep (cells := #[.string nm, .int .u32 ky, .slice p2 l2.length q2, .int .i64 vs, .slice p4 l4.length q4, .slice p5 l5.length q5, .slice p6 l6.length q6, .slice p7 l7.length q7]) rfl 29 (.tmp 2) (.tmp 117) rfl (Sep.one HZM.out) 0 rfl rfl rfl (by kernel_rfl) rfl rfl ?_; intro wf S k _; have HSF : Hid (At wf gr #[.string nm, .int .u32 ky, .slice p2 l2.length q2, .int .i64 vs, .slice p4 l4.length q4, .slice p5 l5.length q5, .slice p6 l6.length q6, .slice p7 l7.length q7] 29) := Lib.hid (S.at 0 rfl); have HKF := Lib.hid k; clear S k _f z1; refine assign_end rfl (.const (.int .i64 0)) rfl rfl ?_; refine wpList_nil ?_; refine ‹∀ (a : Act) (w : World), Code.wp Try.prog Code.ret _ a w → _› _ _ ?_; refine wp_ret ?_; (try unfold Exit.then); change bodyPost Try.prog Try.f14 _ .ret _ _; exact bodyPost_ret (res_cell_tmp rfl rfl HSF.out Try.underlying29 rfl (by kernel_rfl)) rfl ⟨HBW.out.trans (bel_then2 HBM.out HKF.out HGRL.out HBW.out.size), .inl ⟨rfl, HMB.out, (⟨nm, ky, ⟨p2, q2, l2⟩, vs, ⟨p4, q4, l4⟩, ⟨p5, q5, l5⟩, ⟨p6, q6, l6⟩, ⟨p7, q7, l7⟩⟩ : Obj), rfl, HRG.out _ _ HBM.out HZM.out HKF.out, rfl⟩⟩))
end Go.Proofs.Yteagpjcflcahoaa
