/- Contract: imports that may be, in the program. -/
import Derived.Test.YtfnibpkojhgflaaObjHas
import Derived.Test.YtfnibpkojhgflaaSepMore
import Derived.Test.YtfnibpkojhgflaaMixR
namespace Go.Proofs.Ytfnibpkojhgflaa
set_option linter.unusedVariables false
set_option linter.unusedSimpArgs false
open Go.RowKit

set_option maxHeartbeats 1000000 in
theorem imports_walk (s : ByteArray) (l : Sl Imp) (w : World) (hs : s.size ≤ maxLen) (hl : Rows impD w l) :
    Calls Try.prog 51 #[.string s, .slice l.a l.l.length l.c] w fun e w' => e = .returned (.bool (mayImps s l.l)) ∧ Below w.heap.size w w' := by
  have hlen := hl.len
  have hle := hl.row.le
  obtain ⟨b, o, hat, hcell⟩ := hl.at'
  have HR := Lib.hid hl.all; clear hl
  have HAt := Lib.hid hat; clear hat
  have HC := Lib.hid hcell; clear hcell
  have HS := Lib.hid hs; clear hs
  have HSN := Lib.hid (fun w' : World => Sep.nil w')
  obtain ⟨la, lc, l⟩ := l
  dsimp only at HAt HC HR hlen hle
  go_enter Try.func51, Try.ntmps51
  go_wp2_with fail
  go_loopw [5, 9] (fun _ i wr => ∃ k : Nat, k ≤ l.length ∧ i = .int .i64 k ∧ ImpTo s l k ∧ Below w.heap.size w wr) (fun _ i _ => l.length - (intOf i).toNat)
  case atStart => exact ⟨0, Nat.zero_le _, rfl, ImpTo.start s l, Below.refl _ _⟩
  case round =>
    obtain ⟨k, hk, rfl, hI, hB⟩ := hrel
    have HI := Lib.hid hI; clear hI
    have HB := Lib.hid hB; clear hB
    by_cases hlt : k < l.length
    · obtain ⟨⟨xn, xk⟩, hx⟩ := get_lt hlt
      obtain ⟨rfl, hb⟩ := HAt.out (by omega)
      have hco : ∀ (q : Nat) (y : Value), ([.string xn, .int .u32 xk] : List Value)[q]? = some y → wr.cell? ⟨b, o + k * 2 + q, none⟩ = some y := fun q y hy => (HB.out.cell (p := ⟨b, o + k * 2 + q, none⟩) hb).trans (HC.out k _ hx q y hy)
      have HCO := Lib.hid hco
      have hok := (HR.out _ (List.mem_of_getElem? hx)).1
      have HX := Lib.hid hx
      have HO := Lib.hid hok
      have kl0 : (k : Int) ≤ lc := by omega
      have kl1 : k ≤ lc := by omega
      have kl2 : 0 < lc := by omega
      have kl3 : ¬ lc = 0 := by omega
      have hbw := hb
      clear hx hco hb hok
      have f2 : True := trivial
      have f3 : True := trivial
      have f4 : True := trivial
      have f5 : True := trivial
      have HBL0 : Hid (b < wr.heap.size) := Lib.hid (Nat.lt_of_lt_of_le hbw HB.out.size)
      have HRT : Hid (RowAt impD wr b o (l.take k)) := Lib.hid (fun i x hi j u hj => (HB.out.cell (p := ⟨b, o + i * 2 + j, none⟩) hbw).trans (HC.out i x (by rw [List.getElem?_take] at hi; split at hi; exact hi; cases hi) j u hj))
      have HTK : Hid ((l.take k).length = k) := Lib.hid (by rw [List.length_take]; omega)
      have HTL : Hid ((l.take k).length ≤ 9223372036854775807) := Lib.hid (by rw [List.length_take]; omega)
      have HLT := Lib.hid hlt
      have f6 : True := trivial
      clear hbw
      cases hm : mayName xn with
      | false =>
        have HV : Hid (false = mayImps s l) := Lib.hid (HI.out.bad1 HX.out hm).symm
        have HM := Lib.hid hm
        clear hm
        go_wp2_with (first | (have _f := f2; refine wpList_load_mid rfl 86 (.tmp 12) rfl b (o + k * 2) rfl [.string xn, .int .u32 xk] _ HCO.out Try.underlying86 rfl (by kernel_rfl) ?_; clear _f f2) | (have _f := f3; refine alloc_sep rfl 86 rfl (HSN.out _) (z := .agg #[.string ⟨#[]⟩, .int .u32 0]) (cs := #[.string ⟨#[]⟩, .int .u32 0]) (by kernel_rfl) rfl ?_; intro wc S' b' s'; have HSc := Lib.hid S'; have HBc := Lib.hid b'; clear S' b' s' _f f3) | (have _f := f4; refine store_sep (cells := #[.string xn, .int .u32 xk]) rfl 86 (.tmp 6) (.tmp 13) rfl HSc.out 0 rfl rfl rfl (by kernel_rfl) rfl rfl ?_; intro we S' k' s'; have HSe := Lib.hid S'; have HBe : Hid (Below wr.heap.size wr we) := Lib.hid (((Ke.below (· = wr.heap.size) HBc.out).trans k').toBelow (fun i hi e => absurd e (Nat.ne_of_lt hi))); have y0 : we.cell? ⟨wr.heap.size, 0, none⟩ = some (.string xn) := ((S'.at 0 rfl).cell 0).trans rfl; clear S' k' s' _f f4) | (have _f := f5; refine (mayName_any _ _ HO.out).mono ?_; rw [HM.out]; rintro e w' ⟨rfl, rfl⟩; clear _f f5))
        go_ret
        exact ⟨ret_bool HV.out, bel_then HB.out HBe.out⟩
      | true =>
        have HM := Lib.hid hm
        clear hm
        by_cases he : xn = s
        · have hq : (xn.toList == s.toList) = true := str_same he
          have HV : Hid (false = mayImps s l) := Lib.hid (HI.out.bad2 HX.out he).symm
          clear he
          go_wp2_with (first | (have _f := f2; refine wpList_load_mid rfl 86 (.tmp 12) rfl b (o + k * 2) rfl [.string xn, .int .u32 xk] _ HCO.out Try.underlying86 rfl (by kernel_rfl) ?_; clear _f f2) | (have _f := f3; refine alloc_sep rfl 86 rfl (HSN.out _) (z := .agg #[.string ⟨#[]⟩, .int .u32 0]) (cs := #[.string ⟨#[]⟩, .int .u32 0]) (by kernel_rfl) rfl ?_; intro wc S' b' s'; have HSc := Lib.hid S'; have HBc := Lib.hid b'; clear S' b' s' _f f3) | (have _f := f4; refine store_sep (cells := #[.string xn, .int .u32 xk]) rfl 86 (.tmp 6) (.tmp 13) rfl HSc.out 0 rfl rfl rfl (by kernel_rfl) rfl rfl ?_; intro we S' k' s'; have HSe := Lib.hid S'; have HBe : Hid (Below wr.heap.size wr we) := Lib.hid (((Ke.below (· = wr.heap.size) HBc.out).trans k').toBelow (fun i hi e => absurd e (Nat.ne_of_lt hi))); have y0 : we.cell? ⟨wr.heap.size, 0, none⟩ = some (.string xn) := ((S'.at 0 rfl).cell 0).trans rfl; clear S' k' s' _f f4) | (have _f := f5; refine (mayName_any _ _ HO.out).mono ?_; rw [HM.out]; rintro e w' ⟨rfl, rfl⟩; clear _f f5))
          go_ret
          exact ⟨ret_bool HV.out, bel_then HB.out HBe.out⟩
        · have hq : (xn.toList == s.toList) = false := str_other he
          have HNE := Lib.hid he
          clear he
          cases ha : ((l.take k).map Imp.name).any (fun s => decide (s = xn)) with
          | true =>
            have HAN := Lib.hid ha
            have HV : Hid (false = mayImps s l) := Lib.hid (by obtain ⟨j, y, h1, h2, h3⟩ := seen_iff.1 ha; exact (HI.out.bad3 HX.out h1 h2 h3).symm)
            clear ha
            go_wp2_with (first | (have _f := f2; refine wpList_load_mid rfl 86 (.tmp 12) rfl b (o + k * 2) rfl [.string xn, .int .u32 xk] _ HCO.out Try.underlying86 rfl (by kernel_rfl) ?_; clear _f f2) | (have _f := f3; refine alloc_sep rfl 86 rfl (HSN.out _) (z := .agg #[.string ⟨#[]⟩, .int .u32 0]) (cs := #[.string ⟨#[]⟩, .int .u32 0]) (by kernel_rfl) rfl ?_; intro wc S' b' s'; have HSc := Lib.hid S'; have HBc := Lib.hid b'; clear S' b' s' _f f3) | (have _f := f4; refine store_sep (cells := #[.string xn, .int .u32 xk]) rfl 86 (.tmp 6) (.tmp 13) rfl HSc.out 0 rfl rfl rfl (by kernel_rfl) rfl rfl ?_; intro we S' k' s'; have HSe := Lib.hid S'; have HBe : Hid (Below wr.heap.size wr we) := Lib.hid (((Ke.below (· = wr.heap.size) HBc.out).trans k').toBelow (fun i hi e => absurd e (Nat.ne_of_lt hi))); have y0 : we.cell? ⟨wr.heap.size, 0, none⟩ = some (.string xn) := ((S'.at 0 rfl).cell 0).trans rfl; clear S' k' s' _f f4) | (have _f := f5; refine (mayName_any _ _ HO.out).mono ?_; rw [HM.out]; rintro e w' ⟨rfl, rfl⟩; clear _f f5) | (have _f := f6; refine (containsImp_walk b o lc (l.take k) wr.heap.size xn _ (fun i x hx j u hj => (HBe.out.cell (p := ⟨b, o + i * 2 + j, none⟩) HBL0.out).trans (HRT.out i x hx j u hj)) (Nat.lt_of_lt_of_le HBL0.out HBe.out.size) HTL.out ((HSe.out.at 0 rfl).cell 0 |>.trans rfl) (HSe.out.at 0 rfl).lt k HTK.out).mono ?_; rw [HAN.out]; rintro e w' ⟨rfl, hb⟩; have HBg := Lib.hid (bel_then HBe.out hb); clear hb _f f6))
            go_ret
            exact ⟨ret_bool HV.out, bel_then HB.out HBg.out⟩
          | false =>
            have HAN := Lib.hid ha
            have HNX : Hid (ImpTo s l (k + 1)) := Lib.hid (HI.out.next HX.out HM.out HNE.out (fun j y hj hy e => by have := seen_iff.2 ⟨j, y, hj, hy, e⟩; rw [ha] at this; cases this))
            clear ha
            go_wp2_with (first | (have _f := f2; refine wpList_load_mid rfl 86 (.tmp 12) rfl b (o + k * 2) rfl [.string xn, .int .u32 xk] _ HCO.out Try.underlying86 rfl (by kernel_rfl) ?_; clear _f f2) | (have _f := f3; refine alloc_sep rfl 86 rfl (HSN.out _) (z := .agg #[.string ⟨#[]⟩, .int .u32 0]) (cs := #[.string ⟨#[]⟩, .int .u32 0]) (by kernel_rfl) rfl ?_; intro wc S' b' s'; have HSc := Lib.hid S'; have HBc := Lib.hid b'; clear S' b' s' _f f3) | (have _f := f4; refine store_sep (cells := #[.string xn, .int .u32 xk]) rfl 86 (.tmp 6) (.tmp 13) rfl HSc.out 0 rfl rfl rfl (by kernel_rfl) rfl rfl ?_; intro we S' k' s'; have HSe := Lib.hid S'; have HBe : Hid (Below wr.heap.size wr we) := Lib.hid (((Ke.below (· = wr.heap.size) HBc.out).trans k').toBelow (fun i hi e => absurd e (Nat.ne_of_lt hi))); have y0 : we.cell? ⟨wr.heap.size, 0, none⟩ = some (.string xn) := ((S'.at 0 rfl).cell 0).trans rfl; clear S' k' s' _f f4) | (have _f := f5; refine (mayName_any _ _ HO.out).mono ?_; rw [HM.out]; rintro e w' ⟨rfl, rfl⟩; clear _f f5) | (have _f := f6; refine (containsImp_walk b o lc (l.take k) wr.heap.size xn _ (fun i x hx j u hj => (HBe.out.cell (p := ⟨b, o + i * 2 + j, none⟩) HBL0.out).trans (HRT.out i x hx j u hj)) (Nat.lt_of_lt_of_le HBL0.out HBe.out.size) HTL.out ((HSe.out.at 0 rfl).cell 0 |>.trans rfl) (HSe.out.at 0 rfl).lt k HTK.out).mono ?_; rw [HAN.out]; rintro e w' ⟨rfl, hb⟩; have HBg := Lib.hid (bel_then HBe.out hb); clear hb _f f6))
            go_roundw
            case rel => exact ⟨k + 1, HLT.out, by go_num, HNX.out, bel_then HB.out HBg.out⟩
            case measure => simp [intOf]; have := HLT.out; omega
    · have HD := Lib.hid (HI.out.done (by omega))
      have f5 : True := trivial
      clear hk
      cases hm : mayName s with
      | false =>
        have HM := Lib.hid hm
        have HV : Hid (false = mayImps s l) := Lib.hid (by rw [HD.out, hm]; rfl)
        clear hm
        go_wp2_with (have _f := f5; refine (mayName_any _ _ HS.out).mono ?_; rw [HM.out]; rintro e w' ⟨rfl, rfl⟩; clear _f f5)
        go_ret
        exact ⟨ret_bool HV.out, HB.out⟩
      | true =>
        have HM := Lib.hid hm
        have HV : Hid (decide ((l.length : Int) ≤ 12) = mayImps s l) := Lib.hid (by rw [HD.out, hm, Bool.true_and]; exact decide_eq_decide.2 (by omega))
        clear hm
        go_wp2_with (have _f := f5; refine (mayName_any _ _ HS.out).mono ?_; rw [HM.out]; rintro e w' ⟨rfl, rfl⟩; clear _f f5)
        go_ret
        exact ⟨ret_bool HV.out, HB.out⟩
end Go.Proofs.Ytfnibpkojhgflaa
