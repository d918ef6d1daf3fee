/- Contracts: law 08's same, symfile.Same, symfile.File. Printed by bin/gen_symrsame.py. -/
import Derived.Test.YtfnibpkojhgflaaFaceRBytes
import Derived.Test.YtfnibpkojhgflaaFaceRMay
import Derived.Test.YtfnibpkojhgflaaFaceKnown
namespace Go.Proofs.Ytfnibpkojhgflaa
set_option linter.unusedVariables false
set_option linter.unusedSimpArgs false
open Go.RowKit

def eqL (l m : List Int) : Bool := decide (l = m)
def sameF (x y : FD) : Bool := mayFace x && mayFace y && eqL (bytesF x) (bytesF y)
theorem eqL_symm (l m : List Int) : eqL l m = eqL m l := decide_eq_decide.2 ⟨Eq.symm, Eq.symm⟩
theorem sameF_symm (x y : FD) : sameF x y = sameF y x := by
  unfold sameF; rw [eqL_symm, Bool.and_comm (mayFace x)]
theorem sameF_self (x : FD) : sameF x x = mayFace x := by
  unfold sameF eqL; rw [decide_eq_true rfl]; cases mayFace x <;> rfl
theorem may_name {x : FD} (h : mayFace x = true) : x.name.size ≤ 15 := mayName_len (imps_split (mf_split h).1).2.1
theorem name_part {x y : FD} (hx : mayFace x = true) (hy : mayFace y = true) (h : bytesF x = bytesF y) : x.name = y.name ∧ restF x = restF y := by
  have h1 := may_name hx
  have h2 := may_name hy
  unfold bytesF at h
  have h := List.append_cancel_left h
  unfold nameB at h
  rw [List.cons_append, List.cons_append, List.cons.injEq] at h
  have hl : x.name.size = y.name.size := by have := h.1; omega
  have hq := List.append_inj h.2 (by rw [bytesI_len, bytesI_len, hl])
  exact ⟨bytesI_inj hq.1, (List.append_inj hq.2 rfl).2⟩
theorem sameF_iff {x y : FD} (hx : mayFace x = true) (hy : mayFace y = true) : sameF x y = (decide (x.name = y.name) && eqL (restF x) (restF y)) := by
  unfold sameF eqL
  rw [hx, hy, ← Bool.decide_and]
  show decide _ = _
  refine decide_eq_decide.2 ⟨fun h => name_part hx hy h, fun h => ?_⟩
  unfold bytesF; rw [h.1, h.2]
theorem str_beq8 {x y : ByteArray} : (x.toList == y.toList) = true ↔ x = y := by
  rw [beq_iff_eq, ByteArray.toList_eq, ByteArray.toList_eq]
  exact ⟨fun h => ByteArray.ext (Array.toList_inj.1 h), fun h => by rw [h]⟩
theorem strOf_eqL {l m : List Int} (hl : ∀ x ∈ l, isByte x) (hm : ∀ x ∈ m, isByte x) : ((strOf l).toList == (strOf m).toList) = eqL l m := by
  rw [Bool.eq_iff_iff, str_beq8]
  unfold eqL
  rw [decide_eq_true_iff]
  exact ⟨fun h => by rw [← bytesI_strL hl, ← bytesI_strL hm]; exact congrArg bytesI h, fun h => by rw [h]⟩

theorem bytesEqL_walk {a1 a2 : Option Addr} {c1 c2 : Nat} {l m : List Int} (w : World) (hl : RdI .u8 w a1 c1 l) (hm : RdI .u8 w a2 c2 m) :
    Calls Try.prog 26 #[.slice a1 l.length c1, .slice a2 m.length c2] w fun e w' => e = .returned (.bool (eqL l m)) ∧ w = w' := by
  have h1 := run_str_of (P := Try.prog) (dst := 9) hl Try.underlying46 Try.underlying5 Try.underlying9
  have h2 := run_str_of (P := Try.prog) (dst := 9) hm Try.underlying46 Try.underlying5 Try.underlying9
  have h3 := strOf_eqL (rdi_byte8 hl) (rdi_byte8 hm)
  obtain ⟨b, hb⟩ : ∃ b, eqL l m = b := ⟨_, rfl⟩
  obtain ⟨x, hx⟩ : ∃ x, strOf l = x := ⟨_, rfl⟩
  obtain ⟨y, hy⟩ : ∃ y, strOf m = y := ⟨_, rfl⟩
  rw [hx] at h1 h3
  rw [hy] at h2 h3
  rw [hb] at h3 ⊢
  clear hl hm hx hy hb
  go_enter Try.func26, Try.ntmps26
  go_wp2
  go_ret
  exact ⟨rfl, rfl⟩

theorem bytesEqL_bel {a1 a2 : Option Addr} {c1 c2 : Nat} {l m : List Int} (w : World) (hl : RdI .u8 w a1 c1 l) (hm : RdI .u8 w a2 c2 m) :
    Calls Try.prog 26 #[.slice a1 l.length c1, .slice a2 m.length c2] w fun e w' => e = .returned (.bool (eqL l m)) ∧ Below w.heap.size w w' :=
  (bytesEqL_walk w hl hm).mono (by rintro e w' ⟨h, rfl⟩; exact ⟨h, Below.refl _ _⟩)
set_option maxRecDepth 100000 in
set_option maxHeartbeats 4000000 in
theorem lawSame_walk (x y : Fc) (w : World) (hx : x.Rd w) (hy : y.Rd w) :
    Calls Try.prog 14 #[x.val, y.val] w fun e w' => e = .returned (.bool (sameF x.d y.d)) ∧ Below w.heap.size w w' := by
  have HX := Lib.hid hx
  have HY := Lib.hid hy
  clear hx hy
  obtain ⟨p0, p1, p2, p3, hcx⟩ : ∃ p0 p1 p2 p3, x.cells = #[p0, p1, p2, p3] := ⟨_, _, _, _, rfl⟩
  obtain ⟨r0, r1, r2, r3, hcy⟩ : ∃ r0 r1 r2 r3, y.cells = #[r0, r1, r2, r3] := ⟨_, _, _, _, rfl⟩
  have HCX : Hid (x.val = .agg #[p0, p1, p2, p3]) := Lib.hid (by unfold Fc.val; rw [hcx])
  have HCY : Hid (y.val = .agg #[r0, r1, r2, r3]) := Lib.hid (by unfold Fc.val; rw [hcy])
  have HP0 : Hid (p0 = .string x.name) := Lib.hid (by have := congrArg (fun a : Array Value => a.getD 0 undef) hcx; exact this.symm)
  have HR0 : Hid (r0 = .string y.name) := Lib.hid (by have := congrArg (fun a : Array Value => a.getD 0 undef) hcy; exact this.symm)
  rw [HCX.out, HCY.out]
  have HB0 := Lib.hid (bel2 w (.cells #[p0, p1, p2, p3] 26) (.cells #[r0, r1, r2, r3] 26))
  have HGX : Hid (At ((w.alloc (.cells #[p0, p1, p2, p3] 26)).alloc (.cells #[r0, r1, r2, r3] 26)) w.heap.size #[p0, p1, p2, p3] 26) := Lib.hid ((At.new w _ 26).old _)
  have HGY : Hid (At ((w.alloc (.cells #[p0, p1, p2, p3] 26)).alloc (.cells #[r0, r1, r2, r3] 26)) (w.heap.size + 1) #[r0, r1, r2, r3] 26) := Lib.hid (by have := At.new (w.alloc (.cells #[p0, p1, p2, p3] 26)) #[r0, r1, r2, r3] 26; rwa [show (w.alloc (.cells #[p0, p1, p2, p3] 26)).heap.size = w.heap.size + 1 by simp] at this)
  clear hcx hcy
  have HMX : Hid (∀ W, Below w.heap.size w W → Calls Try.prog 15 #[.agg #[p0, p1, p2, p3]] W fun e w' => e = .returned (.bool (mayFace x.d)) ∧ Below W.heap.size W w') := Lib.hid (fun W k => by rw [← HCX.out]; exact rmay_walk x W (HX.out.bel k))
  have HMY : Hid (∀ W, Below w.heap.size w W → Calls Try.prog 15 #[.agg #[r0, r1, r2, r3]] W fun e w' => e = .returned (.bool (mayFace y.d)) ∧ Below W.heap.size W w') := Lib.hid (fun W k => by rw [← HCY.out]; exact rmay_walk y W (HY.out.bel k))
  have HWX : Hid (mayFace x.d = true → ∀ W, Below w.heap.size w W → Calls Try.prog 19 #[.agg #[p0, p1, p2, p3]] W fun e w' => ∃ a c, e = .returned (.tuple #[.slice a (bytesF x.d).length c, .int .u32 (Key.of (restF x.d))]) ∧ RdI .u8 w' a c (bytesF x.d) ∧ Below W.heap.size W w') := Lib.hid (fun hm W k => by rw [← HCX.out]; exact rbytes_walk x W (HX.out.bel k) (small_of hm))
  have HWY : Hid (mayFace y.d = true → ∀ W, Below w.heap.size w W → Calls Try.prog 19 #[.agg #[r0, r1, r2, r3]] W fun e w' => ∃ a c, e = .returned (.tuple #[.slice a (bytesF y.d).length c, .int .u32 (Key.of (restF y.d))]) ∧ RdI .u8 w' a c (bytesF y.d) ∧ Below W.heap.size W w') := Lib.hid (fun hm W k => by rw [← HCY.out]; exact rbytes_walk y W (HY.out.bel k) (small_of hm))
  have HS : Hid (sameF x.d y.d = (mayFace x.d && mayFace y.d && eqL (bytesF x.d) (bytesF y.d))) := Lib.hid rfl
  obtain ⟨M, hM⟩ : ∃ M, M = mayFace x.d := ⟨_, rfl⟩
  obtain ⟨N, hN⟩ : ∃ N, N = mayFace y.d := ⟨_, rfl⟩
  obtain ⟨S, hS⟩ : ∃ S, S = sameF x.d y.d := ⟨_, rfl⟩
  rw [← hM] at HMX HWX HS
  rw [← hN] at HMY HWY HS
  rw [← hS] at HS ⊢
  obtain ⟨Bx, hx⟩ : ∃ B, B = bytesF x.d := ⟨_, rfl⟩
  rw [← hx] at HWX HS
  obtain ⟨Kx, kx⟩ : ∃ K, K = Key.of (restF x.d) := ⟨_, rfl⟩
  rw [← kx] at HWX
  clear hx kx
  obtain ⟨By, hy⟩ : ∃ B, B = bytesF y.d := ⟨_, rfl⟩
  rw [← hy] at HWY HS
  obtain ⟨Ky, ky⟩ : ∃ K, K = Key.of (restF y.d) := ⟨_, rfl⟩
  rw [← ky] at HWY
  clear hy ky
  clear hM hN hS HX HY HCX HCY HP0 HR0
  cases M
  · obtain rfl : S = false := HS.out
    go_enter Try.func14, Try.ntmps14
    have fl1 : True := trivial
    have fl2 : True := trivial
    go_wp2_with (first | (have _f := fl1; refine load_sep (cs := #[p0, p1, p2, p3]) rfl 26 (.tmp 2) rfl (Sep.one HGX.out) 0 rfl rfl Try.underlying26 rfl (by kernel_rfl) ?_; clear _f fl1) | (have _f := fl2; refine (HMX.out _ HB0.out).mono ?_; rintro e w1 ⟨rfl, hb⟩; have HB1 := Lib.hid (bel_then HB0.out hb); have HGX1 := Lib.hid (HGX.out.bel hb); have HGY1 := Lib.hid (HGY.out.bel hb); clear hb; clear _f fl2))
    go_ret
    exact ⟨rfl, HB1.out⟩
  cases N
  · obtain rfl : S = false := HS.out
    go_enter Try.func14, Try.ntmps14
    have fl3 : True := trivial
    have fl4 : True := trivial
    have fl5 : True := trivial
    have fl6 : True := trivial
    go_wp2_with (first | (have _f := fl3; refine load_sep (cs := #[p0, p1, p2, p3]) rfl 26 (.tmp 2) rfl (Sep.one HGX.out) 0 rfl rfl Try.underlying26 rfl (by kernel_rfl) ?_; clear _f fl3) | (have _f := fl4; refine (HMX.out _ HB0.out).mono ?_; rintro e w2 ⟨rfl, hb⟩; have HB2 := Lib.hid (bel_then HB0.out hb); have HGX2 := Lib.hid (HGX.out.bel hb); have HGY2 := Lib.hid (HGY.out.bel hb); clear hb; clear _f fl4) | (have _f := fl5; refine guard_off (by kernel_rfl) ?_; refine load_sep (cs := #[r0, r1, r2, r3]) rfl 26 (.tmp 3) rfl (Sep.one HGY2.out) 0 rfl rfl Try.underlying26 rfl (by kernel_rfl) ?_; clear _f fl5) | (have _f := fl6; refine (HMY.out _ HB2.out).mono ?_; rintro e w3 ⟨rfl, hb⟩; have HB3 := Lib.hid (bel_then HB2.out hb); have HGX3 := Lib.hid (HGX2.out.bel hb); have HGY3 := Lib.hid (HGY2.out.bel hb); clear hb; clear _f fl6))
    go_ret
    exact ⟨rfl, HB3.out⟩
  have HWX2 := Lib.hid (HWX.out rfl)
  have HWY2 := Lib.hid (HWY.out rfl)
  have HE : Hid (S = eqL Bx By) := HS
  clear HS HWX HWY
  go_enter Try.func14, Try.ntmps14
  have fl7 : True := trivial
  have fl8 : True := trivial
  have fl9 : True := trivial
  have fl10 : True := trivial
  have fl11 : True := trivial
  have fl12 : True := trivial
  have fl13 : True := trivial
  have fl14 : True := trivial
  go_wp2_with (first | (have _f := fl7; refine load_sep (cs := #[p0, p1, p2, p3]) rfl 26 (.tmp 2) rfl (Sep.one HGX.out) 0 rfl rfl Try.underlying26 rfl (by kernel_rfl) ?_; clear _f fl7) | (have _f := fl8; refine (HMX.out _ HB0.out).mono ?_; rintro e w4 ⟨rfl, hb⟩; have HB4 := Lib.hid (bel_then HB0.out hb); have HGX4 := Lib.hid (HGX.out.bel hb); have HGY4 := Lib.hid (HGY.out.bel hb); clear hb; clear _f fl8) | (have _f := fl9; refine guard_off (by kernel_rfl) ?_; refine load_sep (cs := #[r0, r1, r2, r3]) rfl 26 (.tmp 3) rfl (Sep.one HGY4.out) 0 rfl rfl Try.underlying26 rfl (by kernel_rfl) ?_; clear _f fl9) | (have _f := fl10; refine (HMY.out _ HB4.out).mono ?_; rintro e w5 ⟨rfl, hb⟩; have HB5 := Lib.hid (bel_then HB4.out hb); have HGX5 := Lib.hid (HGX4.out.bel hb); have HGY5 := Lib.hid (HGY4.out.bel hb); clear hb; clear _f fl10) | (have _f := fl11; refine load_sep (cs := #[p0, p1, p2, p3]) rfl 26 (.tmp 2) rfl (Sep.one HGX5.out) 0 rfl rfl Try.underlying26 rfl (by kernel_rfl) ?_; clear _f fl11) | (have _f := fl12; refine (HWX2.out _ HB5.out).mono ?_; rintro e w6 ⟨ax, cx, rfl, hr, hb⟩; have HB6 := Lib.hid (bel_then HB5.out hb); have HGX6 := Lib.hid (HGX5.out.bel hb); have HGY6 := Lib.hid (HGY5.out.bel hb); have HRX := Lib.hid hr; clear hr; clear hb; clear _f fl12) | (have _f := fl13; refine load_sep (cs := #[r0, r1, r2, r3]) rfl 26 (.tmp 3) rfl (Sep.one HGY6.out) 0 rfl rfl Try.underlying26 rfl (by kernel_rfl) ?_; clear _f fl13) | (have _f := fl14; refine (HWY2.out _ HB6.out).mono ?_; rintro e w7 ⟨ay, cy, rfl, hr, hb⟩; have HB7 := Lib.hid (bel_then HB6.out hb); have HGX7 := Lib.hid (HGX6.out.bel hb); have HGY7 := Lib.hid (HGY6.out.bel hb); have HRY := Lib.hid hr; have h1 := run_str_of (P := Try.prog) (dst := 9) (HRX.out.below hb (Nat.le_refl _)) Try.underlying46 Try.underlying5 Try.underlying9; have h2 := run_str_of (P := Try.prog) (dst := 9) hr Try.underlying46 Try.underlying5 Try.underlying9; have h3 : ((strOf Bx).toList == (strOf By).toList) = S := (strOf_eqL (rdi_byte8 HRX.out) (rdi_byte8 hr)).trans HE.out.symm; clear hr; clear hb; clear _f fl14))
  go_ret
  exact ⟨rfl, HB7.out⟩

set_option maxRecDepth 100000 in
set_option maxHeartbeats 4000000 in
theorem faceSame_walk (x y : Fc) (w : World) (hx : x.Rd w) (hy : y.Rd w) :
    Calls Try.prog 13 #[x.val, y.val] w fun e w' => e = .returned (.bool (sameF x.d y.d)) ∧ Below w.heap.size w w' := by
  have HX := Lib.hid hx
  have HY := Lib.hid hy
  clear hx hy
  obtain ⟨p0, p1, p2, p3, hcx⟩ : ∃ p0 p1 p2 p3, x.cells = #[p0, p1, p2, p3] := ⟨_, _, _, _, rfl⟩
  obtain ⟨r0, r1, r2, r3, hcy⟩ : ∃ r0 r1 r2 r3, y.cells = #[r0, r1, r2, r3] := ⟨_, _, _, _, rfl⟩
  have HCX : Hid (x.val = .agg #[p0, p1, p2, p3]) := Lib.hid (by unfold Fc.val; rw [hcx])
  have HCY : Hid (y.val = .agg #[r0, r1, r2, r3]) := Lib.hid (by unfold Fc.val; rw [hcy])
  have HP0 : Hid (p0 = .string x.name) := Lib.hid (by have := congrArg (fun a : Array Value => a.getD 0 undef) hcx; exact this.symm)
  have HR0 : Hid (r0 = .string y.name) := Lib.hid (by have := congrArg (fun a : Array Value => a.getD 0 undef) hcy; exact this.symm)
  rw [HCX.out, HCY.out]
  have HB0 := Lib.hid (bel2 w (.cells #[p0, p1, p2, p3] 26) (.cells #[r0, r1, r2, r3] 26))
  have HGX : Hid (At ((w.alloc (.cells #[p0, p1, p2, p3] 26)).alloc (.cells #[r0, r1, r2, r3] 26)) w.heap.size #[p0, p1, p2, p3] 26) := Lib.hid ((At.new w _ 26).old _)
  have HGY : Hid (At ((w.alloc (.cells #[p0, p1, p2, p3] 26)).alloc (.cells #[r0, r1, r2, r3] 26)) (w.heap.size + 1) #[r0, r1, r2, r3] 26) := Lib.hid (by have := At.new (w.alloc (.cells #[p0, p1, p2, p3] 26)) #[r0, r1, r2, r3] 26; rwa [show (w.alloc (.cells #[p0, p1, p2, p3] 26)).heap.size = w.heap.size + 1 by simp] at this)
  clear hcx hcy
  have HMX : Hid (∀ W, Below w.heap.size w W → Calls Try.prog 10 #[.agg #[p0, p1, p2, p3]] W fun e w' => e = .returned (.bool (mayFace x.d)) ∧ Below W.heap.size W w') := Lib.hid (fun W k => by rw [← HCX.out]; exact may_walk x W (HX.out.bel k))
  have HMY : Hid (∀ W, Below w.heap.size w W → Calls Try.prog 10 #[.agg #[r0, r1, r2, r3]] W fun e w' => e = .returned (.bool (mayFace y.d)) ∧ Below W.heap.size W w') := Lib.hid (fun W k => by rw [← HCY.out]; exact may_walk y W (HY.out.bel k))
  have HWX : Hid (mayFace x.d = true → ∀ W, Below w.heap.size w W → Calls Try.prog 27 #[.agg #[p0, p1, p2, p3]] W fun e w' => ∃ a c, e = .returned (.slice a (restF x.d).length c) ∧ RdI .u8 w' a c (restF x.d) ∧ Below W.heap.size W w') := Lib.hid (fun hm W k => by rw [← HCX.out]; exact rest_walk x W (HX.out.bel k) (small_of hm))
  have HWY : Hid (mayFace y.d = true → ∀ W, Below w.heap.size w W → Calls Try.prog 27 #[.agg #[r0, r1, r2, r3]] W fun e w' => ∃ a c, e = .returned (.slice a (restF y.d).length c) ∧ RdI .u8 w' a c (restF y.d) ∧ Below W.heap.size W w') := Lib.hid (fun hm W k => by rw [← HCY.out]; exact rest_walk y W (HY.out.bel k) (small_of hm))
  have HS0 : Hid (mayFace x.d = false ∨ mayFace y.d = false → sameF x.d y.d = false) := Lib.hid (fun h => by unfold sameF; rcases h with h | h <;> rw [h] <;> simp)
  have HS1 : Hid (mayFace x.d = true → mayFace y.d = true → sameF x.d y.d = (decide (x.name = y.name) && eqL (restF x.d) (restF y.d))) := Lib.hid (fun a b => sameF_iff a b)
  obtain ⟨M, hM⟩ : ∃ M, M = mayFace x.d := ⟨_, rfl⟩
  obtain ⟨N, hN⟩ : ∃ N, N = mayFace y.d := ⟨_, rfl⟩
  obtain ⟨S, hS⟩ : ∃ S, S = sameF x.d y.d := ⟨_, rfl⟩
  rw [← hM] at HMX HWX HS0 HS1
  rw [← hN] at HMY HWY HS0 HS1
  rw [← hS] at HS0 HS1 ⊢
  obtain ⟨Bx, hx⟩ : ∃ B, B = restF x.d := ⟨_, rfl⟩
  rw [← hx] at HWX HS1
  obtain ⟨nx, mx⟩ : ∃ n, n = x.name := ⟨_, rfl⟩
  rw [← mx] at HS1 HP0
  clear hx mx
  obtain ⟨By, hy⟩ : ∃ B, B = restF y.d := ⟨_, rfl⟩
  rw [← hy] at HWY HS1
  obtain ⟨ny, my⟩ : ∃ n, n = y.name := ⟨_, rfl⟩
  rw [← my] at HS1 HR0
  clear hy my
  clear hM hN hS HX HY HCX HCY
  obtain rfl := HP0.out
  obtain rfl := HR0.out
  cases M
  · obtain rfl : S = false := HS0.out (.inl rfl)
    cases N
    · skip
      go_enter Try.func13, Try.ntmps13
      go_wp2_with (fail)
      refine wp_region_mix' [([0, 2], 1), ([], 3)] [4, 5] (by kernel_rfl) (by kernel_rfl) (fun _ _ d _ _ h => by cases d <;> exact h) ?_
      intro wd hbd
      have HB8 := Lib.hid (bel_then HB0.out hbd)
      have HGX8 := Lib.hid (HGX.out.bel hbd)
      have HGY8 := Lib.hid (HGY.out.bel hbd)
      clear hbd
      refine mix_step ?_
      have ls0 := fun y => (HGX8.out.laterB y).loads (P := Try.prog) Try.underlying26 rfl (by kernel_rfl)
      have ls1 := fun y => (HGY8.out.laterB y).loads (P := Try.prog) Try.underlying26 rfl (by kernel_rfl)
      simp only [pickOps, nth, Act.put, List.setIfInBounds_toArray, List.set_cons_succ, List.set_cons_zero]
      (repeat (go_big_quiet_step (fail)))
      (go_big_quiet_want; refine quiet_row 26 (.tmp 2) rfl rfl ls0 ?_; go_big_quiet_on)
      simp only [pickOps, nth, Act.put, List.setIfInBounds_toArray, List.set_cons_succ, List.set_cons_zero]
      (repeat (go_big_quiet_step (fail)))
      (go_big_quiet_want; refine quiet_row 26 (.tmp 3) rfl rfl ls1 ?_; go_big_quiet_on)
      simp only [pickOps, nth, Act.put, List.setIfInBounds_toArray, List.set_cons_succ, List.set_cons_zero]
      (repeat (go_big_quiet_step (fail)))
      refine wpQuiet_nil ?_
      clear ls0 ls1
      go_wp2_with (refine (HMX.out _ HB8.out).mono ?_; rintro e w9 ⟨rfl, hb⟩; have HBs := Lib.hid hb; have HB9 := Lib.hid (bel_then HB8.out hb); have HGX9 := Lib.hid (HGX8.out.bel hb); have HGY9 := Lib.hid (HGY8.out.bel hb); clear hb)
      refine ⟨HBs.out, mix_step ?_⟩
      simp only [pickOps, nth, Act.put, List.setIfInBounds_toArray, List.set_cons_succ, List.set_cons_zero]
      (repeat (go_big_quiet_step (fail)))
      refine wpQuiet_nil ?_
      go_wp2_with (refine (HMY.out _ HB9.out).mono ?_; rintro e w10 ⟨rfl, hb⟩; have HBs := Lib.hid hb; have HB10 := Lib.hid (bel_then HB9.out hb); have HGX10 := Lib.hid (HGX9.out.bel hb); have HGY10 := Lib.hid (HGY9.out.bel hb); clear hb)
      refine ⟨HBs.out, mix_end ?_⟩
      simp only [pickOps, nth, Act.put, List.setIfInBounds_toArray, List.set_cons_succ, List.set_cons_zero]
      (repeat (go_big_quiet_step (fail)))
      refine wpQuiet_nil ?_
      go_wp2_with (fail)
      refine wp_region_mix' [([0, 1, 2, 3, 4, 5, 6, 7, 8, 9, 10, 11, 12, 14], 13), ([], 15), ([], 16)] [17, 18] (by kernel_rfl) (by kernel_rfl) (fun _ _ d _ _ h => by cases d <;> exact h) ?_
      intro wd hbd
      have HB11 := Lib.hid (bel_then HB10.out hbd)
      have HGX11 := Lib.hid (HGX10.out.bel hbd)
      have HGY11 := Lib.hid (HGY10.out.bel hbd)
      clear hbd
      refine mix_step ?_
      simp only [pickOps, nth, Act.put, List.setIfInBounds_toArray, List.set_cons_succ, List.set_cons_zero]
      (repeat (go_big_quiet_step (fail)))
      refine wpQuiet_nil ?_
      go_wp2_with (fail)
      refine ⟨Below.refl _ _, mix_step ?_⟩
      simp only [pickOps, nth, Act.put, List.setIfInBounds_toArray, List.set_cons_succ, List.set_cons_zero]
      (repeat (go_big_quiet_step (fail)))
      refine wpQuiet_nil ?_
      go_wp2_with (fail)
      refine ⟨Below.refl _ _, mix_step ?_⟩
      simp only [pickOps, nth, Act.put, List.setIfInBounds_toArray, List.set_cons_succ, List.set_cons_zero]
      (repeat (go_big_quiet_step (fail)))
      refine wpQuiet_nil ?_
      go_wp2_with (fail)
      refine ⟨Below.refl _ _, mix_end ?_⟩
      simp only [pickOps, nth, Act.put, List.setIfInBounds_toArray, List.set_cons_succ, List.set_cons_zero]
      (repeat (go_big_quiet_step (fail)))
      refine wpQuiet_nil ?_
      go_wp2_with (fail)
      go_ret
      exact ⟨rfl, HB11.out⟩
    · skip
      go_enter Try.func13, Try.ntmps13
      go_wp2_with (fail)
      refine wp_region_mix' [([0, 2], 1), ([], 3)] [4, 5] (by kernel_rfl) (by kernel_rfl) (fun _ _ d _ _ h => by cases d <;> exact h) ?_
      intro wd hbd
      have HB12 := Lib.hid (bel_then HB0.out hbd)
      have HGX12 := Lib.hid (HGX.out.bel hbd)
      have HGY12 := Lib.hid (HGY.out.bel hbd)
      clear hbd
      refine mix_step ?_
      have ls0 := fun y => (HGX12.out.laterB y).loads (P := Try.prog) Try.underlying26 rfl (by kernel_rfl)
      have ls1 := fun y => (HGY12.out.laterB y).loads (P := Try.prog) Try.underlying26 rfl (by kernel_rfl)
      simp only [pickOps, nth, Act.put, List.setIfInBounds_toArray, List.set_cons_succ, List.set_cons_zero]
      (repeat (go_big_quiet_step (fail)))
      (go_big_quiet_want; refine quiet_row 26 (.tmp 2) rfl rfl ls0 ?_; go_big_quiet_on)
      simp only [pickOps, nth, Act.put, List.setIfInBounds_toArray, List.set_cons_succ, List.set_cons_zero]
      (repeat (go_big_quiet_step (fail)))
      (go_big_quiet_want; refine quiet_row 26 (.tmp 3) rfl rfl ls1 ?_; go_big_quiet_on)
      simp only [pickOps, nth, Act.put, List.setIfInBounds_toArray, List.set_cons_succ, List.set_cons_zero]
      (repeat (go_big_quiet_step (fail)))
      refine wpQuiet_nil ?_
      clear ls0 ls1
      go_wp2_with (refine (HMX.out _ HB12.out).mono ?_; rintro e w13 ⟨rfl, hb⟩; have HBs := Lib.hid hb; have HB13 := Lib.hid (bel_then HB12.out hb); have HGX13 := Lib.hid (HGX12.out.bel hb); have HGY13 := Lib.hid (HGY12.out.bel hb); clear hb)
      refine ⟨HBs.out, mix_step ?_⟩
      simp only [pickOps, nth, Act.put, List.setIfInBounds_toArray, List.set_cons_succ, List.set_cons_zero]
      (repeat (go_big_quiet_step (fail)))
      refine wpQuiet_nil ?_
      go_wp2_with (refine (HMY.out _ HB13.out).mono ?_; rintro e w14 ⟨rfl, hb⟩; have HBs := Lib.hid hb; have HB14 := Lib.hid (bel_then HB13.out hb); have HGX14 := Lib.hid (HGX13.out.bel hb); have HGY14 := Lib.hid (HGY13.out.bel hb); clear hb)
      refine ⟨HBs.out, mix_end ?_⟩
      simp only [pickOps, nth, Act.put, List.setIfInBounds_toArray, List.set_cons_succ, List.set_cons_zero]
      (repeat (go_big_quiet_step (fail)))
      refine wpQuiet_nil ?_
      go_wp2_with (fail)
      refine wp_region_mix' [([0, 1, 2, 3, 4, 5, 6, 7, 8, 9, 10, 11, 12, 14], 13), ([], 15), ([], 16)] [17, 18] (by kernel_rfl) (by kernel_rfl) (fun _ _ d _ _ h => by cases d <;> exact h) ?_
      intro wd hbd
      have HB15 := Lib.hid (bel_then HB14.out hbd)
      have HGX15 := Lib.hid (HGX14.out.bel hbd)
      have HGY15 := Lib.hid (HGY14.out.bel hbd)
      clear hbd
      refine mix_step ?_
      simp only [pickOps, nth, Act.put, List.setIfInBounds_toArray, List.set_cons_succ, List.set_cons_zero]
      (repeat (go_big_quiet_step (fail)))
      refine wpQuiet_nil ?_
      go_wp2_with (fail)
      refine ⟨Below.refl _ _, mix_step ?_⟩
      simp only [pickOps, nth, Act.put, List.setIfInBounds_toArray, List.set_cons_succ, List.set_cons_zero]
      (repeat (go_big_quiet_step (fail)))
      refine wpQuiet_nil ?_
      go_wp2_with (fail)
      refine ⟨Below.refl _ _, mix_step ?_⟩
      simp only [pickOps, nth, Act.put, List.setIfInBounds_toArray, List.set_cons_succ, List.set_cons_zero]
      (repeat (go_big_quiet_step (fail)))
      refine wpQuiet_nil ?_
      go_wp2_with (fail)
      refine ⟨Below.refl _ _, mix_end ?_⟩
      simp only [pickOps, nth, Act.put, List.setIfInBounds_toArray, List.set_cons_succ, List.set_cons_zero]
      (repeat (go_big_quiet_step (fail)))
      refine wpQuiet_nil ?_
      go_wp2_with (fail)
      go_ret
      exact ⟨rfl, HB15.out⟩
  cases N
  · obtain rfl : S = false := HS0.out (.inr rfl)
    go_enter Try.func13, Try.ntmps13
    go_wp2_with (fail)
    refine wp_region_mix' [([0, 2], 1), ([], 3)] [4, 5] (by kernel_rfl) (by kernel_rfl) (fun _ _ d _ _ h => by cases d <;> exact h) ?_
    intro wd hbd
    have HB16 := Lib.hid (bel_then HB0.out hbd)
    have HGX16 := Lib.hid (HGX.out.bel hbd)
    have HGY16 := Lib.hid (HGY.out.bel hbd)
    clear hbd
    refine mix_step ?_
    have ls0 := fun y => (HGX16.out.laterB y).loads (P := Try.prog) Try.underlying26 rfl (by kernel_rfl)
    have ls1 := fun y => (HGY16.out.laterB y).loads (P := Try.prog) Try.underlying26 rfl (by kernel_rfl)
    simp only [pickOps, nth, Act.put, List.setIfInBounds_toArray, List.set_cons_succ, List.set_cons_zero]
    (repeat (go_big_quiet_step (fail)))
    (go_big_quiet_want; refine quiet_row 26 (.tmp 2) rfl rfl ls0 ?_; go_big_quiet_on)
    simp only [pickOps, nth, Act.put, List.setIfInBounds_toArray, List.set_cons_succ, List.set_cons_zero]
    (repeat (go_big_quiet_step (fail)))
    (go_big_quiet_want; refine quiet_row 26 (.tmp 3) rfl rfl ls1 ?_; go_big_quiet_on)
    simp only [pickOps, nth, Act.put, List.setIfInBounds_toArray, List.set_cons_succ, List.set_cons_zero]
    (repeat (go_big_quiet_step (fail)))
    refine wpQuiet_nil ?_
    clear ls0 ls1
    go_wp2_with (refine (HMX.out _ HB16.out).mono ?_; rintro e w17 ⟨rfl, hb⟩; have HBs := Lib.hid hb; have HB17 := Lib.hid (bel_then HB16.out hb); have HGX17 := Lib.hid (HGX16.out.bel hb); have HGY17 := Lib.hid (HGY16.out.bel hb); clear hb)
    refine ⟨HBs.out, mix_step ?_⟩
    simp only [pickOps, nth, Act.put, List.setIfInBounds_toArray, List.set_cons_succ, List.set_cons_zero]
    (repeat (go_big_quiet_step (fail)))
    refine wpQuiet_nil ?_
    go_wp2_with (refine (HMY.out _ HB17.out).mono ?_; rintro e w18 ⟨rfl, hb⟩; have HBs := Lib.hid hb; have HB18 := Lib.hid (bel_then HB17.out hb); have HGX18 := Lib.hid (HGX17.out.bel hb); have HGY18 := Lib.hid (HGY17.out.bel hb); clear hb)
    refine ⟨HBs.out, mix_end ?_⟩
    simp only [pickOps, nth, Act.put, List.setIfInBounds_toArray, List.set_cons_succ, List.set_cons_zero]
    (repeat (go_big_quiet_step (fail)))
    refine wpQuiet_nil ?_
    go_wp2_with (fail)
    refine wp_region_mix' [([0, 1, 2, 3, 4, 5, 6, 7, 8, 9, 10, 11, 12, 14], 13), ([], 15), ([], 16)] [17, 18] (by kernel_rfl) (by kernel_rfl) (fun _ _ d _ _ h => by cases d <;> exact h) ?_
    intro wd hbd
    have HB19 := Lib.hid (bel_then HB18.out hbd)
    have HGX19 := Lib.hid (HGX18.out.bel hbd)
    have HGY19 := Lib.hid (HGY18.out.bel hbd)
    clear hbd
    refine mix_step ?_
    simp only [pickOps, nth, Act.put, List.setIfInBounds_toArray, List.set_cons_succ, List.set_cons_zero]
    (repeat (go_big_quiet_step (fail)))
    refine wpQuiet_nil ?_
    go_wp2_with (fail)
    refine ⟨Below.refl _ _, mix_step ?_⟩
    simp only [pickOps, nth, Act.put, List.setIfInBounds_toArray, List.set_cons_succ, List.set_cons_zero]
    (repeat (go_big_quiet_step (fail)))
    refine wpQuiet_nil ?_
    go_wp2_with (fail)
    refine ⟨Below.refl _ _, mix_step ?_⟩
    simp only [pickOps, nth, Act.put, List.setIfInBounds_toArray, List.set_cons_succ, List.set_cons_zero]
    (repeat (go_big_quiet_step (fail)))
    refine wpQuiet_nil ?_
    go_wp2_with (fail)
    refine ⟨Below.refl _ _, mix_end ?_⟩
    simp only [pickOps, nth, Act.put, List.setIfInBounds_toArray, List.set_cons_succ, List.set_cons_zero]
    (repeat (go_big_quiet_step (fail)))
    refine wpQuiet_nil ?_
    go_wp2_with (fail)
    go_ret
    exact ⟨rfl, HB19.out⟩
  have HE : Hid (S = (decide (nx = ny) && eqL Bx By)) := Lib.hid (HS1.out rfl rfl)
  have HWX2 := Lib.hid (HWX.out rfl)
  have HWY2 := Lib.hid (HWY.out rfl)
  clear HS0 HS1 HWX HWY
  by_cases hn : nx = ny
  rotate_left
  · obtain rfl : S = false := by rw [HE.out, decide_eq_false hn]; rfl
    have hq := str_other hn
    clear hn
    go_enter Try.func13, Try.ntmps13
    go_wp2_with (fail)
    refine wp_region_mix' [([0, 2], 1), ([], 3)] [4, 5] (by kernel_rfl) (by kernel_rfl) (fun _ _ d _ _ h => by cases d <;> exact h) ?_
    intro wd hbd
    have HB20 := Lib.hid (bel_then HB0.out hbd)
    have HGX20 := Lib.hid (HGX.out.bel hbd)
    have HGY20 := Lib.hid (HGY.out.bel hbd)
    clear hbd
    refine mix_step ?_
    have ls0 := fun y => (HGX20.out.laterB y).loads (P := Try.prog) Try.underlying26 rfl (by kernel_rfl)
    have ls1 := fun y => (HGY20.out.laterB y).loads (P := Try.prog) Try.underlying26 rfl (by kernel_rfl)
    simp only [pickOps, nth, Act.put, List.setIfInBounds_toArray, List.set_cons_succ, List.set_cons_zero]
    (repeat (go_big_quiet_step (fail)))
    (go_big_quiet_want; refine quiet_row 26 (.tmp 2) rfl rfl ls0 ?_; go_big_quiet_on)
    simp only [pickOps, nth, Act.put, List.setIfInBounds_toArray, List.set_cons_succ, List.set_cons_zero]
    (repeat (go_big_quiet_step (fail)))
    (go_big_quiet_want; refine quiet_row 26 (.tmp 3) rfl rfl ls1 ?_; go_big_quiet_on)
    simp only [pickOps, nth, Act.put, List.setIfInBounds_toArray, List.set_cons_succ, List.set_cons_zero]
    (repeat (go_big_quiet_step (fail)))
    refine wpQuiet_nil ?_
    clear ls0 ls1
    go_wp2_with (refine (HMX.out _ HB20.out).mono ?_; rintro e w21 ⟨rfl, hb⟩; have HBs := Lib.hid hb; have HB21 := Lib.hid (bel_then HB20.out hb); have HGX21 := Lib.hid (HGX20.out.bel hb); have HGY21 := Lib.hid (HGY20.out.bel hb); clear hb)
    refine ⟨HBs.out, mix_step ?_⟩
    simp only [pickOps, nth, Act.put, List.setIfInBounds_toArray, List.set_cons_succ, List.set_cons_zero]
    (repeat (go_big_quiet_step (fail)))
    refine wpQuiet_nil ?_
    go_wp2_with (refine (HMY.out _ HB21.out).mono ?_; rintro e w22 ⟨rfl, hb⟩; have HBs := Lib.hid hb; have HB22 := Lib.hid (bel_then HB21.out hb); have HGX22 := Lib.hid (HGX21.out.bel hb); have HGY22 := Lib.hid (HGY21.out.bel hb); clear hb)
    refine ⟨HBs.out, mix_end ?_⟩
    simp only [pickOps, nth, Act.put, List.setIfInBounds_toArray, List.set_cons_succ, List.set_cons_zero]
    (repeat (go_big_quiet_step (fail)))
    refine wpQuiet_nil ?_
    go_wp2_with (fail)
    refine wp_region_mix' [([0, 1, 2, 3, 4, 5, 6, 7, 8, 9, 10, 11, 12, 14], 13), ([], 15), ([], 16)] [17, 18] (by kernel_rfl) (by kernel_rfl) (fun _ _ d _ _ h => by cases d <;> exact h) ?_
    intro wd hbd
    have HB23 := Lib.hid (bel_then HB22.out hbd)
    have HGX23 := Lib.hid (HGX22.out.bel hbd)
    have HGY23 := Lib.hid (HGY22.out.bel hbd)
    clear hbd
    refine mix_step ?_
    have lcX0 := fun y => HGX23.out.laterCellB (v := .string nx) 0 rfl y
    have lcY0 := fun y => HGY23.out.laterCellB (v := .string ny) 0 rfl y
    simp only [pickOps, nth, Act.put, List.setIfInBounds_toArray, List.set_cons_succ, List.set_cons_zero]
    (repeat (go_big_quiet_step (fail)))
    refine wpQuiet_nil ?_
    clear lcX0 lcY0
    go_wp2_with (fail)
    refine ⟨Below.refl _ _, mix_step ?_⟩
    simp only [pickOps, nth, Act.put, List.setIfInBounds_toArray, List.set_cons_succ, List.set_cons_zero]
    (repeat (go_big_quiet_step (fail)))
    refine wpQuiet_nil ?_
    go_wp2_with (fail)
    refine ⟨Below.refl _ _, mix_step ?_⟩
    simp only [pickOps, nth, Act.put, List.setIfInBounds_toArray, List.set_cons_succ, List.set_cons_zero]
    (repeat (go_big_quiet_step (fail)))
    refine wpQuiet_nil ?_
    go_wp2_with (fail)
    refine ⟨Below.refl _ _, mix_end ?_⟩
    simp only [pickOps, nth, Act.put, List.setIfInBounds_toArray, List.set_cons_succ, List.set_cons_zero]
    (repeat (go_big_quiet_step (fail)))
    refine wpQuiet_nil ?_
    go_wp2_with (fail)
    go_ret
    exact ⟨rfl, HB23.out⟩
  have HE2 : Hid (S = eqL Bx By) := Lib.hid (by rw [HE.out, decide_eq_true hn]; rfl)
  have hq := str_same hn
  clear hn HE
  go_enter Try.func13, Try.ntmps13
  go_wp2_with (fail)
  refine wp_region_mix' [([0, 2], 1), ([], 3)] [4, 5] (by kernel_rfl) (by kernel_rfl) (fun _ _ d _ _ h => by cases d <;> exact h) ?_
  intro wd hbd
  have HB24 := Lib.hid (bel_then HB0.out hbd)
  have HGX24 := Lib.hid (HGX.out.bel hbd)
  have HGY24 := Lib.hid (HGY.out.bel hbd)
  clear hbd
  refine mix_step ?_
  have ls0 := fun y => (HGX24.out.laterB y).loads (P := Try.prog) Try.underlying26 rfl (by kernel_rfl)
  have ls1 := fun y => (HGY24.out.laterB y).loads (P := Try.prog) Try.underlying26 rfl (by kernel_rfl)
  simp only [pickOps, nth, Act.put, List.setIfInBounds_toArray, List.set_cons_succ, List.set_cons_zero]
  (repeat (go_big_quiet_step (fail)))
  (go_big_quiet_want; refine quiet_row 26 (.tmp 2) rfl rfl ls0 ?_; go_big_quiet_on)
  simp only [pickOps, nth, Act.put, List.setIfInBounds_toArray, List.set_cons_succ, List.set_cons_zero]
  (repeat (go_big_quiet_step (fail)))
  (go_big_quiet_want; refine quiet_row 26 (.tmp 3) rfl rfl ls1 ?_; go_big_quiet_on)
  simp only [pickOps, nth, Act.put, List.setIfInBounds_toArray, List.set_cons_succ, List.set_cons_zero]
  (repeat (go_big_quiet_step (fail)))
  refine wpQuiet_nil ?_
  clear ls0 ls1
  go_wp2_with (refine (HMX.out _ HB24.out).mono ?_; rintro e w25 ⟨rfl, hb⟩; have HBs := Lib.hid hb; have HB25 := Lib.hid (bel_then HB24.out hb); have HGX25 := Lib.hid (HGX24.out.bel hb); have HGY25 := Lib.hid (HGY24.out.bel hb); clear hb)
  refine ⟨HBs.out, mix_step ?_⟩
  simp only [pickOps, nth, Act.put, List.setIfInBounds_toArray, List.set_cons_succ, List.set_cons_zero]
  (repeat (go_big_quiet_step (fail)))
  refine wpQuiet_nil ?_
  go_wp2_with (refine (HMY.out _ HB25.out).mono ?_; rintro e w26 ⟨rfl, hb⟩; have HBs := Lib.hid hb; have HB26 := Lib.hid (bel_then HB25.out hb); have HGX26 := Lib.hid (HGX25.out.bel hb); have HGY26 := Lib.hid (HGY25.out.bel hb); clear hb)
  refine ⟨HBs.out, mix_end ?_⟩
  simp only [pickOps, nth, Act.put, List.setIfInBounds_toArray, List.set_cons_succ, List.set_cons_zero]
  (repeat (go_big_quiet_step (fail)))
  refine wpQuiet_nil ?_
  go_wp2_with (fail)
  refine wp_region_mix' [([0, 1, 2, 3, 4, 5, 6, 7, 8, 9, 10, 11, 12, 14], 13), ([], 15), ([], 16)] [17, 18] (by kernel_rfl) (by kernel_rfl) (fun _ _ d _ _ h => by cases d <;> exact h) ?_
  intro wd hbd
  have HB27 := Lib.hid (bel_then HB26.out hbd)
  have HGX27 := Lib.hid (HGX26.out.bel hbd)
  have HGY27 := Lib.hid (HGY26.out.bel hbd)
  clear hbd
  refine mix_step ?_
  have lcX0 := fun y => HGX27.out.laterCellB (v := .string nx) 0 rfl y
  have lcY0 := fun y => HGY27.out.laterCellB (v := .string ny) 0 rfl y
  have ls0 := fun y => (HGX27.out.laterB y).loads (P := Try.prog) Try.underlying26 rfl (by kernel_rfl)
  have ls1 := fun y => (HGY27.out.laterB y).loads (P := Try.prog) Try.underlying26 rfl (by kernel_rfl)
  simp only [pickOps, nth, Act.put, List.setIfInBounds_toArray, List.set_cons_succ, List.set_cons_zero]
  (repeat (go_big_quiet_step (fail)))
  (go_big_quiet_want; refine quiet_row 26 (.tmp 2) rfl rfl ls0 ?_; go_big_quiet_on)
  simp only [pickOps, nth, Act.put, List.setIfInBounds_toArray, List.set_cons_succ, List.set_cons_zero]
  (repeat (go_big_quiet_step (fail)))
  (go_big_quiet_want; refine quiet_row 26 (.tmp 3) rfl rfl ls1 ?_; go_big_quiet_on)
  simp only [pickOps, nth, Act.put, List.setIfInBounds_toArray, List.set_cons_succ, List.set_cons_zero]
  (repeat (go_big_quiet_step (fail)))
  refine wpQuiet_nil ?_
  clear lcX0 lcY0 ls0 ls1
  go_wp2_with (refine (HWX2.out _ HB27.out).mono ?_; rintro e w28 ⟨ax, cx, rfl, hr, hb⟩; have HBs := Lib.hid hb; have HB28 := Lib.hid (bel_then HB27.out hb); have HGX28 := Lib.hid (HGX27.out.bel hb); have HGY28 := Lib.hid (HGY27.out.bel hb); have HRX := Lib.hid hr; clear hr; clear hb)
  refine ⟨HBs.out, mix_step ?_⟩
  simp only [pickOps, nth, Act.put, List.setIfInBounds_toArray, List.set_cons_succ, List.set_cons_zero]
  (repeat (go_big_quiet_step (fail)))
  refine wpQuiet_nil ?_
  go_wp2_with (refine (HWY2.out _ HB28.out).mono ?_; rintro e w29 ⟨ay, cy, rfl, hr, hb⟩; have HBs := Lib.hid hb; have HB29 := Lib.hid (bel_then HB28.out hb); have HGX29 := Lib.hid (HGX28.out.bel hb); have HGY29 := Lib.hid (HGY28.out.bel hb); have HRY := Lib.hid hr; have HRX2 := Lib.hid (HRX.out.below hb (Nat.le_refl _)); clear hr; clear hb)
  refine ⟨HBs.out, mix_step ?_⟩
  simp only [pickOps, nth, Act.put, List.setIfInBounds_toArray, List.set_cons_succ, List.set_cons_zero]
  (repeat (go_big_quiet_step (fail)))
  refine wpQuiet_nil ?_
  go_wp2_with (refine (bytesEqL_bel _ HRX2.out HRY.out).mono ?_; rintro e w30 ⟨rfl, hb⟩; have HBs := Lib.hid hb; have HB30 := Lib.hid (bel_then HB29.out hb); have HGX30 := Lib.hid (HGX29.out.bel hb); have HGY30 := Lib.hid (HGY29.out.bel hb); clear hb)
  refine ⟨HBs.out, mix_end ?_⟩
  simp only [pickOps, nth, Act.put, List.setIfInBounds_toArray, List.set_cons_succ, List.set_cons_zero]
  (repeat (go_big_quiet_step (fail)))
  refine wpQuiet_nil ?_
  rw [← HE2.out]
  go_wp2_with (fail)
  go_ret
  exact ⟨rfl, HB30.out⟩

theorem file8_walk (s : ByteArray) (w : World) (hs : s.size ≤ 1000) :
    Calls Try.prog 16 #[.string s] w fun e w' => e = .returned (.string (s ++ ⟨#[46, 115]⟩)) ∧ w = w' := by
  have h1 : ¬ 9223372036854775807 < s.size + 2 := by omega
  go_enter Try.func16, Try.ntmps16
  go_wp2
  go_ret
  exact ⟨rfl, rfl⟩
end Go.Proofs.Ytfnibpkojhgflaa
